/- The evaluator of small memories: a part (AbCongr). -/
import Derived.Test.YtcngigfjdlgfbaaGreatDoorAbFrame
namespace Go.Ab
open Go
variable {P : Program} {ρ ρ' : Operand → Value}

theorem mapP {l : List (Nat × Operand)} (h : ∀ x ∈ l.map (·.2), ρ x = ρ' x) : l.map (fun p => (p.1, ρ p.2)) = l.map (fun p => (p.1, ρ' p.2)) :=
  List.map_congr_left fun p hp => by rw [h p.2 (List.mem_map_of_mem hp)]
theorem mapO {r : Option Operand} (h : ∀ x ∈ r.toList, ρ x = ρ' x) : r.map ρ = r.map ρ' := by
  cases r with
  | none => rfl
  | some x => simp [h x (by simp)]
theorem allP {l : List (Nat × Operand)} (h : ∀ x ∈ l.map (·.2), ρ x = ρ' x) (q : Value → Bool) : (l.all fun p => q (ρ p.2)) = l.all fun p => q (ρ' p.2) := by
  induction l with
  | nil => rfl
  | cons p l ih => simp only [List.all_cons, h p.2 (by simp), ih fun x hx => h x (by simp only [List.map_cons, List.mem_cons]; exact .inr hx)]

theorem opPure_congr {o : Oper} (h : ∀ x ∈ o.op.operands, ρ x = ρ' x) : opPure P ρ o = opPure P ρ' o := by
  obtain ⟨dst, op, ty, pos, after, guard⟩ := o
  cases op
  case call c =>
    obtain ⟨callee, args, ats⟩ := c
    cases callee with
    | builtin b =>
      have ha : args.toList.map ρ = args.toList.map ρ' := List.map_congr_left fun x hx => h x (by simpa [Op.operands, Call.operands] using hx)
      cases b <;> simp only [opPure, ha]
      split
      · next x t hx ht => rw [h x (by simp [Op.operands, Call.operands]; exact Array.mem_of_getElem? hx)]
      · rfl
    | _ => rfl
  all_goals first
    | rfl
    | (simp only [Op.operands, Array.mem_append, List.mem_toArray, List.mem_cons, List.not_mem_nil, or_false, forall_eq_or_imp, forall_eq] at h; simp only [opPure, h]; done)
    | skip
  case build t ps =>
    simp only [opPure]
    rw [mapP fun x hx => h x (by simpa [Op.operands] using hx)]
  case makeFunc fn first captured =>
    have h1 : first.map ρ = first.map ρ' := Array.map_congr_left fun x hx => h x (by simp [Op.operands, hx])
    have h2 : captured.map ρ = captured.map ρ' := Array.map_congr_left fun x hx => h x (by simp [Op.operands, hx])
    simp only [opPure, h1, h2]

theorem opRead_congr {o : Oper} {hp : Heap} (h : ∀ x ∈ o.op.operands, ρ x = ρ' x) : opRead P ρ o hp = opRead P ρ' o hp := by
  obtain ⟨dst, op, ty, pos, after, guard⟩ := o
  cases op
  case call c =>
    obtain ⟨callee, args, ats⟩ := c
    cases callee with
    | builtin b =>
      cases b <;> simp only [opRead]
      split
      · next x t hx ht => rw [h x (by simp [Op.operands, Call.operands]; exact Array.mem_of_getElem? hx)]
      · rfl
    | _ => rfl
  all_goals first
    | rfl
    | (simp only [Op.operands, Array.mem_append, List.mem_toArray, List.mem_cons, List.not_mem_nil, or_false, forall_eq_or_imp, forall_eq] at h; simp only [opRead, h]; done)
    | skip
  case slice t x l hi m =>
    have h1 : ρ x = ρ' x := h x (by simp [Op.operands])
    have h2 : l.map ρ = l.map ρ' := mapO fun x hx => h x (by simp at hx; simp [Op.operands, hx])
    have h3 : hi.map ρ = hi.map ρ' := mapO fun x hx => h x (by simp at hx; simp [Op.operands, hx])
    have h4 : m.map ρ = m.map ρ' := mapO fun x hx => h x (by simp at hx; simp [Op.operands, hx])
    simp only [opRead, h1, h2, h3, h4]

theorem opAlloc_congr {o : Oper} (h : ∀ x ∈ o.op.operands, ρ x = ρ' x) : opAlloc P ρ o = opAlloc P ρ' o := by
  obtain ⟨dst, op, ty, pos, after, guard⟩ := o
  cases op
  all_goals first
    | rfl
    | (simp only [Op.operands, List.mem_toArray, List.mem_cons, List.not_mem_nil, or_false, forall_eq_or_imp, forall_eq] at h; simp only [opAlloc, h]; done)
    | skip
  case buildSlice t len ps =>
    have hm : ∀ x ∈ ps.toList.map (·.2), ρ x = ρ' x := fun x hx => h x (by simpa [Op.operands] using hx)
    simp only [opAlloc]
    rw [mapP hm, allP hm]
  case makeMap t r =>
    cases r with
    | none => rfl
    | some x => simp only [opAlloc, h x (by simp [Op.operands])]

theorem opEff_congr {cf : CallF} {o : Oper} {hp : Heap} (h : ∀ x ∈ o.op.operands, ρ x = ρ' x) : opEff P cf ρ o hp = opEff P cf ρ' o hp := by
  obtain ⟨dst, op, ty, pos, after, guard⟩ := o
  cases op
  case call c =>
    obtain ⟨callee, args, ats⟩ := c
    cases callee with
    | builtin b =>
      have ha : args.toList.map ρ = args.toList.map ρ' := List.map_congr_left fun x hx => h x (by simpa [Op.operands, Call.operands] using hx)
      cases b <;> simp only [opEff, ha]
      all_goals
        split
        · next s x t t' hx ht =>
          have h1 : ∀ y ∈ args.toList, ρ y = ρ' y := fun y hy => h y (by simpa [Op.operands, Call.operands] using hy)
          rw [hx] at h1
          rw [h1 s (by simp), h1 x (by simp)]
        · rfl
    | value f =>
      have ha : args.toList.map ρ = args.toList.map ρ' := List.map_congr_left fun x hx => h x (by simp [Op.operands, Call.operands]; right; simpa using hx)
      simp only [opEff, ha, h f (by simp [Op.operands, Call.operands])]
    | _ => rfl
  all_goals first
    | rfl
    | (simp only [Op.operands, List.mem_toArray, List.mem_cons, List.not_mem_nil, or_false, forall_eq_or_imp, forall_eq] at h; simp only [opEff, h]; done)
    | skip
end Go.Ab
