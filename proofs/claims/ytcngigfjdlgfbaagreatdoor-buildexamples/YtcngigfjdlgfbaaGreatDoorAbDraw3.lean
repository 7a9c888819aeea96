/- The evaluator of small memories: a part (AbDraw3). -/
import Derived.Test.YtcngigfjdlgfbaaGreatDoorAbDraw2
namespace Go.Ab
open Go
variable {β : Inj} {P : Program} {gl : Nat → Bool}

theorem val_wp {r : Option Nat} {n : Nat} {o : Oper} {a : Act} {w w' : World} {v' : Value} (hnd : ∀ c, o.op ≠ .defer c) (hrun : (execOp a.eval o).run P w = .ok (.value v') w') {next : Act → World → Prop} {Q : Exit → Act → World → Prop}
    (h : next (a.put o.dst v') w') : o.wpIn (fence r) n P a w next Q := by
  refine ⟨fun _ _ => trivial, ?_⟩
  rw [Oper.semAt_eq _ _ _ hnd, hrun]
  exact h

/-- What turns the memory, or calls. -/
theorem eff_wp (hN : NamesOk P) {cf : CallF} (hcf : CfOk P gl cf) {r : Option Nat} {n : Nat} {ρ : Operand → Value} {a : Act} {h : Heap} {w : World} {o : Oper} {v : Value} {u : Upd} (hs : Sim β h w) (hg : Gl gl β) (hρ : ∀ x, VRel β (ρ x) (a.eval x))
    (hr : opEff P cf ρ o h = some (v, u)) (next : Act → World → Prop) (Q : Exit → Act → World → Prop)
    (hk : ∀ v' w' β', Step β h w β' (u.app h) w' → VRel β' v v' → next (a.put o.dst v') w') : o.wpIn (fence r) n P a w next Q := by
  refine ⟨fun _ _ => trivial, ?_⟩
  have hnd : ∀ c, o.op ≠ .defer c := by
    intro c hc
    simp [opEff, hc] at hr
  rw [Oper.semAt_eq _ _ _ hnd]
  by_cases hc : callsValue o = false
  · obtain ⟨v', w', β', h1, h2, h3⟩ := opEff_sim hρ hc hs hr
    rcases h1 with h1 | ⟨h1, rfl⟩
    · rw [h1]
      exact hk v' w' β' h2 h3
    · rw [h1]
      exact hk undef w' β' h2 h3
  · unfold callsValue at hc
    split at hc
    · next f args ats ho =>
      simp only [opEff, ho] at hr
      exact callV_wp hN hcf ho hs hg hρ hr next Q hk
    · exact absurd rfl hc

open Classical in
/-- What an operation asks, and nothing else. -/
noncomputable def only (o : Oper) (ρ : Operand → Value) : Operand → Value := fun x => if x ∈ o.op.operands then ρ x else junk
theorem only_on {o : Oper} {ρ : Operand → Value} : ∀ x ∈ o.op.operands, ρ x = only o ρ x := fun x hx => by simp [only, hx]
theorem only_rel {o : Oper} {ρ ρ' : Operand → Value} (h : ∀ x ∈ o.op.operands, VRel β (ρ x) (ρ' x)) : ∀ x, VRel β (only o ρ x) (ρ' x) := fun x => by
  unfold only
  split
  · next hx => exact h x hx
  · exact .junk _

section
variable {cf : CallF} {ops : Array Oper} {bf : Nat → Nat → Bool} {st : Nat → DSt} {en : Nat → Ent}

/-- Where the operations of pre have run. -/
structure Inv (ops : Array Oper) (bf : Nat → Nat → Bool) (st : Nat → DSt) (en : Nat → Ent) (β₀ : Inj) (h : Heap) (w₀ : World) (a₀ : Act) (pre : List Nat) (β : Inj) (w : World) (a : Act) (c : Nat) (R : List (Nat × Blk)) : Prop where
  le : c ≤ ops.size
  effs : ∀ e, e < ops.size → (en e).isEff = true → (e ∈ pre ↔ e < c)
  mem : ∀ i B, (i, B) ∈ R ↔ i ∈ pre ∧ Pend bf en c i B
  step : Step β₀ h w₀ β (setAll (st c).2.1 h.next R) w
  room : h.next + ops.size ≤ (st c).2.1.next
  nokey : ∀ i B, i < ops.size → (st c).2.1.get (h.next + i) = some B → ∃ e, e < c ∧ (en e).isEff = true ∧ bf e i = true
  free : ∀ i, i < ops.size → i ∉ pre → (∃ B v, en i = .alloc B v) → β (h.next + i) = none
  tms : TmS ops en (st 0).1 pre β a
  dfs : a.defers = a₀.defers

theorem Pend.fun_ {c i : Nat} {B B' : Blk} (h : Pend bf en c i B) (h' : Pend bf en c i B') : B = B' := by
  obtain ⟨v, h1⟩ := h.1
  obtain ⟨v', h2⟩ := h'.1
  rw [h1] at h2; cases h2; rfl

variable {β₀ : Inj} {h : Heap} {w₀ : World} {a₀ : Act} {pre : List Nat} {w : World} {a : Act} {c : Nat} {R : List (Nat × Blk)}

theorem Inv.none_ (hI : Inv ops bf st en β₀ h w₀ a₀ pre β w a c R) {i : Nat} {B : Blk} (hi : i < ops.size) (hp : Pend bf en c i B) : (st c).2.1.get (h.next + i) = none := by
  cases hg : (st c).2.1.get (h.next + i) with
  | none => rfl
  | some B' =>
    obtain ⟨e, h1, h2, h3⟩ := hI.nokey i B' hi hg
    rw [hp.2 e h1 h2] at h3; cases h3

theorem Inv.get (hI : Inv ops bf st en β₀ h w₀ a₀ pre β w a c R) (hpre : ∀ i ∈ pre, i < ops.size) (k : Nat) (B : Blk) :
    (setAll (st c).2.1 h.next R).get k = some B ↔ (st c).2.1.get k = some B ∨ ∃ i, k = h.next + i ∧ (i, B) ∈ R :=
  get_setAll R (fun i B B' h1 h2 => ((hI.mem i B).1 h1).2.fun_ ((hI.mem i B').1 h2).2) (fun i B h1 => hI.none_ (hpre i ((hI.mem i B).1 h1).1) ((hI.mem i B).1 h1).2) k B

theorem Inv.sub (hI : Inv ops bf st en β₀ h w₀ a₀ pre β w a c R) (hpre : ∀ i ∈ pre, i < ops.size) : Sim β (st c).2.1 w :=
  hI.step.sim.sub (next_setAll R).symm fun k B hk => (hI.get hpre k B).2 (.inl hk)

/-- An operation that leaves the memory. -/
theorem Inv.calm (hO : Ordd ops bf) (hI : Inv ops bf st en β₀ h w₀ a₀ pre β w a c R) {j : Nat} {o : Oper} (ho : ops[j]? = some o) (hne : (en j).isEff = false) (hna : ∀ B v, en j ≠ .alloc B v) {v' : Value} (hv : VRel β (en j).val v') :
    Inv ops bf st en β₀ h w₀ a₀ (pre ++ [j]) β w (a.put o.dst v') c R where
  le := hI.le
  effs := fun e he hef => by
    rw [List.mem_append, hI.effs e he hef]
    refine ⟨fun hh => ?_, .inl⟩
    rcases hh with hh | hh
    · exact hh
    · simp only [List.mem_singleton] at hh
      subst hh
      rw [hne] at hef; cases hef
  mem := fun i B => by
    rw [hI.mem, List.mem_append]
    refine ⟨fun ⟨h1, h2⟩ => ⟨.inl h1, h2⟩, fun ⟨h1, h2⟩ => ⟨?_, h2⟩⟩
    rcases h1 with h1 | h1
    · exact h1
    · simp only [List.mem_singleton] at h1
      subst h1
      obtain ⟨v, hv⟩ := h2.1
      exact absurd hv (hna B v)
  step := hI.step
  room := hI.room
  nokey := hI.nokey
  free := fun i h1 h2 => hI.free i h1 fun hh => h2 (List.mem_append_left _ hh)
  tms := hI.tms.put hO ho hv
  dfs := (put_defers a o.dst v').trans hI.dfs

theorem draw_ops (hN : NamesOk P) (hcf : CfOk P gl cf) (hO : Ordd ops bf) (hR : Run P gl cf ops bf h.next st en) (hpd : (st 0).2.2 = []) {L : List Nat} (hL : Topo ops L) {r : Option Nat} {n : Nat} {Q : Exit → Act → World → Prop} (hg₀ : Gl gl β₀)
    (hk : ∀ a' w' β', Step β₀ h w₀ β' (setAll (st ops.size).2.1 h.next (st ops.size).2.2) w' → LRel β' (st ops.size).1 a'.tmps.toList → a'.defers = a₀.defers → Q .normal a' w') :
    ∀ (suf pre : List Nat) (β : Inj) (w : World) (a : Act) (c : Nat) (R : List (Nat × Blk)), L = pre ++ suf → Inv ops bf st en β₀ h w₀ a₀ pre β w a c R → wpOpsIn (fence r) n P ops Q suf a w
  | [], pre, β, w, a, c, R, he, hI => by
    rw [List.append_nil] at he
    subst he
    have hpre : ∀ i ∈ L, i < ops.size := fun i hi => (hL.mem i).1 hi
    have hnoeff : ∀ e, c ≤ e → e < ops.size → (en e).isEff = false := fun e h1 h2 => by
      cases hef : (en e).isEff with
      | false => rfl
      | true => have := (hI.effs e h2 hef).1 ((hL.mem e).2 h2); omega
    have hle := hI.le
    have hsame : (st ops.size).2.1 = (st c).2.1 := by
      have := hR.same_heap (c := c) (ops.size - c) (by omega) fun e h1 h2 => hnoeff e h1 (by omega)
      rwa [show c + (ops.size - c) = ops.size by omega] at this
    have hpend : ∀ i B, Pend bf en ops.size i B ↔ Pend bf en c i B := fun i B => by
      refine ⟨fun hp => ⟨hp.1, fun e h1 => hp.2 e (by omega)⟩, fun hp => ⟨hp.1, fun e h1 h2 => hp.2 e ?_ h2⟩⟩
      rcases Nat.lt_or_ge e c with h3 | h3
      · exact h3
      · rw [hnoeff e h3 h1] at h2; cases h2
    have hmem : ∀ i B, (i, B) ∈ (st ops.size).2.2 ↔ (i, B) ∈ R := fun i B => by
      rw [hR.pend hO hpd ops.size (Nat.le_refl _), hI.mem, hpend, hL.mem]
    have hget := hI.get hpre
    have hget2 : ∀ k B, (setAll (st ops.size).2.1 h.next (st ops.size).2.2).get k = some B ↔ (st c).2.1.get k = some B ∨ ∃ i, k = h.next + i ∧ (i, B) ∈ (st ops.size).2.2 := by
      rw [hsame]
      exact get_setAll _ (fun i B B' h1 h2 => ((hI.mem i B).1 ((hmem i B).1 h1)).2.fun_ ((hI.mem i B').1 ((hmem i B').1 h2)).2)
        (fun i B h1 => hI.none_ (hpre i ((hI.mem i B).1 ((hmem i B).1 h1)).1) ((hI.mem i B).1 ((hmem i B).1 h1)).2)
    have hS : Same (setAll (st c).2.1 h.next R) (setAll (st ops.size).2.1 h.next (st ops.size).2.2) := by
      refine ⟨by rw [next_setAll, next_setAll, hsame], fun k => Option.ext fun B => ?_⟩
      rw [hget, hget2]
      simp only [hmem]
    refine hk a w β (hI.step.same (Same.refl h) hS) ?_ hI.dfs
    refine ⟨?_, fun t v v' h1 h2 => ?_⟩
    · rw [hR.tm_length _ (Nat.le_refl _), Array.length_toList, hI.tms.1]
    · rw [Array.getElem?_toList] at h2
      obtain ⟨h3, h4⟩ := hI.tms.2 t v' h2
      have htl : t < (st 0).1.length := by rw [← hR.tm_length _ (Nat.le_refl _)]; exact (List.getElem?_eq_some_iff.1 h1).1
      by_cases hw : ∃ (i : Nat) (o : Oper), ops[i]? = some o ∧ o.dst = some t
      · obtain ⟨i, o, ho, hd⟩ := hw
        have hi : i < ops.size := (Array.getElem?_eq_some_iff.1 ho).1
        rw [hR.tm_new hO htl ho hd _ (Nat.le_refl _) hi] at h1
        obtain rfl := Option.some.inj h1
        exact h3 i o ((hL.mem i).2 hi) ho hd
      · rw [hR.tm_old t _ (Nat.le_refl _) fun i o _ ho hd => hw ⟨i, o, ho, hd⟩] at h1
        exact h4 (fun i o _ ho hd => hw ⟨i, o, ho, hd⟩) v h1
  | j :: suf, pre, β, w, a, c, R, he, hI => by
    have hpre : ∀ i ∈ pre, i < ops.size := fun i hi => (hL.mem i).1 (by rw [he]; exact List.mem_append_left _ hi)
    have hj : j < ops.size := (hL.mem j).1 (by rw [he]; simp)
    have hnj : j ∉ pre := fun hm => by
      have hnd := hL.nodup
      rw [he] at hnd
      exact absurd rfl ((List.nodup_append.1 hnd).2.2 j hm j List.mem_cons_self)
    have hbf : ∀ i, bf j i = true → i ∈ pre := hO.topo L hL pre j suf he
    have hfb : ∀ i ∈ pre, bf i j = false := fun i hi => by
      cases hb : bf i j with
      | false => rfl
      | true =>
        obtain ⟨p1, p2, rfl⟩ := List.append_of_mem hi
        exact absurd (List.mem_append_left _ (hO.topo L hL p1 i (p2 ++ j :: suf) (by rw [he]; simp) j hb)) hnj
    have ho := Array.getElem?_eq_getElem hj
    generalize ops[j] = o at ho
    have hone := hR.one j o ho
    have hg : Gl gl β := hg₀.mono hI.step.le
    have hsee := hI.tms.sees hO hR hL he hg ho
    have hρ := only_rel hsee
    have hrec := draw_ops hN hcf hO hR hpd hL (r := r) (n := n) hg₀ hk suf (pre ++ [j])
    have he' : L = (pre ++ [j]) ++ suf := by rw [he]; simp
    simp only [wpOpsIn, ho]
    cases hen : en j with
    | skip =>
      rw [hen] at hone; simp only [One] at hone
      rw [hI.tms.wanted hO hR hL he ho hone.1]
      simp only [Bool.false_eq_true, if_false]
      refine ⟨fun _ _ => trivial, ?_⟩
      exact hrec β w _ c R he' (hI.calm hO ho (by rw [hen]; rfl) (by rw [hen]; intro B v h; cases h) (by rw [hen]; exact .undef β))
    | pure v =>
      rw [hen] at hone; simp only [One] at hone
      obtain ⟨hw, hop, _⟩ := hone
      rw [hI.tms.wanted hO hR hL he ho hw]
      simp only [if_true]
      rw [opPure_congr only_on] at hop
      obtain ⟨v', h1, h2⟩ := opPure_sim hρ hop w
      refine val_wp ?_ h1 (hrec β w _ c R he' (hI.calm hO ho (by rw [hen]; rfl) (by rw [hen]; intro B v h; cases h) (by rw [hen]; exact h2)))
      intro cc hc; simp [opPure, hc] at hop
    | read v =>
      rw [hen] at hone; simp only [One] at hone
      obtain ⟨hw, _, _⟩ := hone
      rw [hI.tms.wanted hO hR hL he ho hw]
      simp only [if_true]
      have hop := hR.reads j o v ho hen c hI.le
        (fun e h1 h2 => hfb e ((hI.effs e (by have := hI.le; omega) h2).2 h1))
        (fun e h1 h2 h3 => by
          cases hb : bf j e with
          | false => rfl
          | true => have := (hI.effs e h2 h3).1 (hbf e hb); omega)
      rw [opRead_congr only_on] at hop
      obtain ⟨v', h1, h2⟩ := opRead_sim hρ (hI.sub hpre) hop
      refine val_wp ?_ h1 (hrec β w _ c R he' (hI.calm hO ho (by rw [hen]; rfl) (by rw [hen]; intro B v h; cases h) (by rw [hen]; exact h2)))
      intro cc hc; simp [opRead, hc] at hop
    | alloc B v =>
      rw [hen] at hone; simp only [One] at hone
      obtain ⟨hw, ⟨f, hop, rfl⟩, _⟩ := hone
      rw [hI.tms.wanted hO hR hL he ho hw]
      simp only [if_true]
      rw [opAlloc_congr only_on] at hop
      obtain ⟨v', w', h1, h2⟩ := opAlloc_sim hρ (w := w) hop
      have hfree := hI.free j hj hnj ⟨B, _, hen⟩
      have hroom := hI.room
      obtain ⟨β', h3, h4, h5, h6⟩ := h2.at_key hI.step hfree (by omega) (by rw [next_setAll]; omega)
      refine val_wp (by intro cc hc; simp [opAlloc, hc] at hop) h1 (hrec β' w' _ c ((j, B) :: R) he' ⟨hI.le, ?_, ?_, h3, hI.room, hI.nokey, ?_, ?_, (put_defers a o.dst v').trans hI.dfs⟩)
      · intro e h7 h8
        rw [List.mem_append, hI.effs e h7 h8]
        refine ⟨fun hh => ?_, .inl⟩
        rcases hh with hh | hh
        · exact hh
        · simp only [List.mem_singleton] at hh
          subst hh
          rw [hen] at h8; cases h8
      · intro i B'
        rw [List.mem_cons, hI.mem, List.mem_append]
        constructor
        · rintro (hh | ⟨h7, h8⟩)
          · simp only [Prod.mk.injEq] at hh
            obtain ⟨rfl, rfl⟩ := hh
            refine ⟨.inr List.mem_cons_self, ⟨_, hen⟩, fun e h7 h8 => hfb e ((hI.effs e (by have := hI.le; omega) h8).2 h7)⟩
          · exact ⟨.inl h7, h8⟩
        · rintro ⟨h7 | h7, h8⟩
          · exact .inr ⟨h7, h8⟩
          · simp only [List.mem_singleton] at h7
            subst h7
            obtain ⟨v2, h9⟩ := h8.1
            rw [hen] at h9
            cases h9
            exact .inl rfl
      · intro i h7 h8 h9
        rw [h6 _ fun hh => h8 (by rw [show i = j by omega]; simp)]
        exact hI.free i h7 (fun hh => h8 (List.mem_append_left _ hh)) h9
      · exact (hI.tms.mono h5).put hO ho (by rw [hen]; exact h4)
    | eff v h' =>
      rw [hen] at hone; simp only [One] at hone
      have hheap : (st (j + 1)).2.1 = h' := by rw [hone.2.2]
      obtain ⟨hw, ⟨u, hop, hu⟩, _⟩ := hone
      rw [hI.tms.wanted hO hR hL he ho hw]
      simp only [if_true]
      have hcj : c ≤ j := by
        rcases Nat.lt_or_ge j c with h1 | h1
        · exact absurd ((hI.effs j hj (by rw [hen]; rfl)).2 h1) hnj
        · exact h1
      have hnoeff : ∀ e, c ≤ e → e < j → (en e).isEff = false := fun e h1 h2 => by
        cases hef : (en e).isEff with
        | false => rfl
        | true =>
          have := (hI.effs e (by omega) hef).1 (hbf e (hR.chain e j h2 hj hef (by rw [hen]; rfl)))
          omega
      have hsame : (st j).2.1 = (st c).2.1 := by
        have := hR.same_heap (c := c) (j - c) (by omega) fun e h1 h2 => hnoeff e h1 (by omega)
        rwa [show c + (j - c) = j by omega] at this
      rw [hsame] at hop hu
      have hF : ∀ i B, (i, B) ∈ (st j).2.2.filter (fun p => bf j p.1) ↔ Pend bf en c i B ∧ bf j i = true := fun i B => by
        rw [List.mem_filter, hR.pend hO hpd j (by omega)]
        constructor
        · rintro ⟨⟨h1, h2, h3⟩, h4⟩
          exact ⟨⟨h2, fun e h5 => h3 e (by omega)⟩, h4⟩
        · rintro ⟨⟨h2, h3⟩, h4⟩
          refine ⟨⟨hO.lt _ _ h4, h2, fun e h5 h6 => ?_⟩, h4⟩
          rcases Nat.lt_or_ge e c with h7 | h7
          · exact h3 e h7 h6
          · rw [hnoeff e h7 h5] at h6; cases h6
      generalize (st j).2.2.filter (fun p => bf j p.1) = F at hF hop hu
      have hGp := get_setAll (h := (st c).2.1) (base := h.next) F (fun i B B' h1 h2 => ((hF i B).1 h1).1.fun_ ((hF i B').1 h2).1)
        (fun i B h1 => hI.none_ (by have := hO.lt _ _ ((hF i B).1 h1).2; omega) ((hF i B).1 h1).1)
      have hgetV := hI.get hpre
      have hsub : Sim β (setAll (st c).2.1 h.next F) w := hI.step.sim.sub (by rw [next_setAll, next_setAll]) fun k B hkk => by
        rw [hgetV]
        rcases (hGp k B).1 hkk with h1 | ⟨i, h1, h2⟩
        · exact .inl h1
        · exact .inr ⟨i, h1, (hI.mem i B).2 ⟨hbf i ((hF i B).1 h2).2, ((hF i B).1 h2).1⟩⟩
      rw [opEff_congr only_on] at hop
      refine eff_wp hN hcf hsub hg hρ hop _ _ fun v' w' β' hst hv => ?_
      rw [← hu, ← hheap] at hst
      have hroom := hI.room
      have hnextF : (setAll (st c).2.1 h.next F).next = (st c).2.1.next := next_setAll F
      -- what is still pending
      have hRmem : ∀ i B, (i, B) ∈ R.filter (fun p => !bf j p.1) ↔ i ∈ pre ∧ Pend bf en c i B ∧ bf j i = false := fun i B => by
        rw [List.mem_filter, hI.mem]; simp [and_assoc]
      have hRnone : ∀ i B, (i, B) ∈ R.filter (fun p => !bf j p.1) → (setAll (st c).2.1 h.next F).get (h.next + i) = none := fun i B hm => by
        obtain ⟨h1, h2, h3⟩ := (hRmem i B).1 hm
        cases hgk : (setAll (st c).2.1 h.next F).get (h.next + i) with
        | none => rfl
        | some B' =>
          rcases (hGp _ _).1 hgk with h4 | ⟨i', h4, h5⟩
          · rw [hI.none_ (hpre i h1) h2] at h4; cases h4
          · obtain rfl : i = i' := by omega
            rw [((hF _ _).1 h5).2] at h3; cases h3
      have hback : ∀ k B, (st (j + 1)).2.1.get k = some B → k < (st c).2.1.next → ∃ B₀, (setAll (st c).2.1 h.next F).get k = some B₀ := fun k B h1 h2 => hst.keys k B h1 (by rw [hnextF]; exact h2)
      have hGn := get_setAll (h := (st (j + 1)).2.1) (base := h.next) (R.filter fun p => !bf j p.1) (fun i B B' h1 h2 => ((hRmem i B).1 h1).2.1.fun_ ((hRmem i B').1 h2).2.1)
        (fun i B hm => by
          cases hgk : (st (j + 1)).2.1.get (h.next + i) with
          | none => rfl
          | some B' =>
            obtain ⟨B₀, h4⟩ := hback _ _ hgk (by have := hpre i ((hRmem i B).1 hm).1; omega)
            rw [hRnone i B hm] at h4; cases h4)
      have hframe := hst.frame (V := setAll (st c).2.1 h.next R) (V' := setAll (st (j + 1)).2.1 h.next (R.filter fun p => !bf j p.1)) hI.step.sim (by rw [next_setAll, hnextF]) (next_setAll _)
        (fun k B => ∃ i, k = h.next + i ∧ (i, B) ∈ R.filter fun p => !bf j p.1)
        (fun k B ⟨i, h1, h2⟩ => by
          subst h1
          exact ⟨by rw [hnextF]; have := hpre i ((hRmem i B).1 h2).1; omega, hRnone i B h2⟩)
        (fun k B => by
          rw [hgetV, hGp]
          constructor
          · rintro (h1 | ⟨i, h1, h2⟩)
            · exact .inl (.inl h1)
            · obtain ⟨h3, h4⟩ := (hI.mem i B).1 h2
              cases hb : bf j i with
              | true => exact .inl (.inr ⟨i, h1, (hF i B).2 ⟨h4, hb⟩⟩)
              | false => exact .inr ⟨i, h1, (hRmem i B).2 ⟨h3, h4, hb⟩⟩
          · rintro ((h1 | ⟨i, h1, h2⟩) | ⟨i, h1, h2⟩)
            · exact .inl h1
            · exact .inr ⟨i, h1, (hI.mem i B).2 ⟨hbf i ((hF i B).1 h2).2, ((hF i B).1 h2).1⟩⟩
            · exact .inr ⟨i, h1, (List.mem_filter.1 h2).1⟩)
        hGn
      have hnext := hst.next
      rw [hnextF] at hnext
      refine hrec β' w' _ (j + 1) _ he' ⟨by omega, ?_, ?_, hI.step.trans hframe, by omega, ?_, ?_, (hI.tms.mono hst.le).put hO ho (by rw [hen]; exact hv), (put_defers a o.dst v').trans hI.dfs⟩
      · intro e h1 h2
        rw [List.mem_append, hI.effs e h1 h2, List.mem_singleton]
        constructor
        · rintro (h3 | h3) <;> omega
        · intro h3
          rcases Nat.lt_or_ge e c with h4 | h4
          · exact .inl h4
          · rcases Nat.lt_or_ge e j with h5 | h5
            · rw [hnoeff e h4 h5] at h2; cases h2
            · exact .inr (by omega)
      · intro i B
        rw [hRmem, List.mem_append]
        constructor
        · rintro ⟨h1, ⟨h2, h3⟩, h4⟩
          refine ⟨.inl h1, h2, fun e h5 h6 => ?_⟩
          rcases Nat.lt_or_ge e c with h7 | h7
          · exact h3 e h7 h6
          · rcases Nat.lt_or_ge e j with h8 | h8
            · rw [hnoeff e h7 h8] at h6; cases h6
            · obtain rfl : e = j := by omega
              exact h4
        · rintro ⟨h1, ⟨v2, h2⟩, h3⟩
          rcases h1 with h1 | h1
          · exact ⟨h1, ⟨⟨v2, h2⟩, fun e h4 => h3 e (by omega)⟩, h3 j (by omega) (by rw [hen]; rfl)⟩
          · simp only [List.mem_singleton] at h1
            subst h1
            rw [hen] at h2; cases h2
      · intro i B h1 h2
        obtain ⟨B₀, h3⟩ := hback _ _ h2 (by omega)
        rcases (hGp _ _).1 h3 with h4 | ⟨i', h4, h5⟩
        · obtain ⟨e, h6, h7, h8⟩ := hI.nokey i B₀ h1 h4
          exact ⟨e, by omega, h7, h8⟩
        · obtain rfl : i = i' := by omega
          exact ⟨j, by omega, by rw [hen]; rfl, ((hF _ _).1 h5).2⟩
      · intro i h1 h2 h3
        have hold := hI.free i h1 (fun hh => h2 (List.mem_append_left _ hh)) h3
        cases hb : β' (h.next + i) with
        | none => rfl
        | some sl =>
          rcases hst.fresh _ sl hb with h4 | ⟨h4, _⟩
          · rw [hold] at h4; cases h4
          · rw [hnextF] at h4; omega
end
end Go.Ab
