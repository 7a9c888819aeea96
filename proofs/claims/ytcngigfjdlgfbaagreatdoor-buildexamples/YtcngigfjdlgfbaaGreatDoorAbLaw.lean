/- The last step of a law's row, where of the world behind the call no more is known than that what lay there lies as it lay. -/
import Derived.Below
import Derived.ChangeSame
namespace Go.Ab
open Go Go.RowKit Go.WideShapes Go.ChangeShapes
section
variable {H : Type} {enc : TypeId × Value → H} {P : Program}

theorem law_post {f : Func} {s : ChangeSpec} {apart fresh handsOn again : Bool} {W W' : World} {args : Array Value} {v : Value} {ds : List (DataW H)} {places : List MemPlace}
    (hvars : s.vars = []) (hW : DataW.Whole enc P f.params.toList s.vars apart W args.toList ds [] places) (hb : Below W.heap.size W W')
    (hsame : (s.fn H (ds ++ [])).args = ds) (hnov : (s.fn H (ds ++ [])).vars = [])
    (hres : ∀ (b : Nat) (sp : Nat → Bool) (hd : Bool), DataW.TrodAll enc P W' b sp hd f.resultTypes.toList (v.resultList f.resultTypes.size) (s.fn H (ds ++ [])).results [])
    (hok : ∀ (j : Nat) (t : TypeId) (r : Value), f.resultTypes[j]? = some t → (v.resultList f.resultTypes.size)[j]? = some r → Value.okWide P W' .any 0 t r)
    (hargs : ∀ sp : Nat → Bool, (∀ p ∈ places, sp p.block = true) → DataW.TrodAll enc P W' 0 sp true f.params.toList args.toList ds places) : s.post enc P f apart fresh handsOn again W args v W' := by
  have hin : ∀ p ∈ places, p.block < W.heap.size := fun p hp => hW.lt p hp
  have hmine : ∀ p ∈ places, (fun b => decide (b < W.heap.size)) p.block = true := fun p hp => decide_eq_true (hin p hp)
  have hv0 : ∀ sp : Nat → Bool, DataW.TrodVars enc P W' sp s.vars (s.fn H (ds ++ [])).vars [] := fun sp => by
    rw [hvars, hnov]; rfl
  have hfr := World.keptBut_mono (may' := fun p => p ∈ places ∧ (p ∈ ([] : List MemPlace) ∨ p ∈ places ∨ p ∈ ([] : List MemPlace))) (fun p hp => ⟨hp, .inr (.inl hp)⟩) (hb.frame (· ∈ places))
  obtain ⟨_, _, _, _, _, hz, hn⟩ := id hW
  have hargs' : ∀ sp : Nat → Bool, (∀ p ∈ places, sp p.block = true) → DataW.TrodAll enc P W' 0 sp true f.params.toList args.toList (s.fn H (ds ++ [])).args places := fun sp h => by rw [hsame]; exact hargs sp h
  refine ⟨ds, [], places, [], places, [], hW, hres _ _ _, hargs' _ hmine, hv0 _, hfr, fun _ => ⟨hok, _, _, ([] ++ places) ++ [], ⟨[] ++ places, [], trodAll_append (hargs' _ fun _ _ => rfl) (hres _ _ _), hv0 _, rfl, ?_, ?_⟩, ?_⟩⟩
  · intro b off hp
    have hp : MemPlace.cell b off ∈ places := by simpa using hp
    rw [hb.frozen (hin _ hp)]
    exact hz b off hp
  · intro ha
    simpa using hn ha
  · intro p hp _
    simpa using hp
end
end Go.Ab
