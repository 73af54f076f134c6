/- Reading what came in, with what its numbers keep to: a slice whose elements can be told is told as a list whose elements have a property; in plain Lean over any program of the model; no conditions beyond those the lemma names. -/
import Derived.Test.YtoceiaaigiflpaaDoorLibOpen
set_option linter.unusedVariables false
set_option linter.unusedSimpArgs false
namespace Go.Proofs.YtoceiaaigiflpaaDoor.L
open Go.RowKit Go.Proofs.YtoceiaaigiflpaaDoorW.PrintWords
variable {H : Type} {enc : TypeId × Value → H} {P : Program} {w : World} {base : Nat} {sp : Nat → Bool} {held : Bool} {α : Type}
/-- whatever reads at the type t is told by the kind d and has the property G -/
def TellsG (enc : TypeId × Value → H) (P : Program) (w : World) (base : Nat) (sp : Nat → Bool) (held : Bool) (t : TypeId) (d : Kd α) (G : α → Prop) : Prop :=
  ∀ (fuel : Nat) (cs : List Value) (x : DataW H × List MemPlace), DataW.trod enc P w base sp held fuel t cs = some x → ∃ v, d.K w v cs ∧ G v
theorem told_rowsG {d : Kd α} {G : α → Prop} {t e : TypeId} (ht : P.underlying t = some (.slice e)) (hc : P.cellsOf e = d.sz) (hd : TellsG enc P w base sp held e d G) {fuel : Nat} {cs : List Value} {x : DataW H × List MemPlace}
    (h : DataW.trod enc P w base sp held fuel t cs = some x) : ∃ (A : Option Addr) (xs : List α) (c : Nat), cs = [.slice A xs.length c] ∧ xs.length ≤ c ∧ Kd.C d w A xs.length xs ∧ ∀ x ∈ xs, G x := by
  rcases Go.Deep.open_slice ht h with ⟨rfl, _⟩ | ⟨a, len, cap, m, n, D, Pl, rfl, hb, hl, hm, hmm, rfl, hx⟩
  · exact ⟨none, [], 0, rfl, Nat.le_refl _, Kd.C_nil d w, fun x hx => by cases hx⟩
  · have hlm : len ≤ m := by rw [hmm]; split <;> omega
    obtain ⟨xs, hxl, hxs⟩ := choose_list (Q := fun i v => ∃ cs', w.cells? base (a.add (i * P.cellsOf e)) (P.cellsOf e) = some cs' ∧ d.K w v cs' ∧ G v) len (fun i hi => by
      obtain ⟨cs', h1, h2⟩ := hx i (by omega)
      obtain ⟨v, hv, hg⟩ := hd _ _ _ h2
      exact ⟨v, cs', h1, hv, hg⟩)
    refine ⟨some a, xs, cap, by rw [hxl], by omega, ⟨rfl, by unfold maxLen at hm; omega, fun _ => ⟨a, rfl, fun j p hj => ?_⟩⟩, fun x hx => by
      obtain ⟨j, hj⟩ := List.getElem?_of_mem hx
      obtain ⟨_, _, _, h3⟩ := hxs j x hj
      exact h3⟩
    obtain ⟨cs', h1, h2, _⟩ := hxs j p hj
    refine ⟨cs', d.K_len h2, h2, fun i u hu => ?_⟩
    obtain ⟨_, h3, h4⟩ := World.cells?_some h1
    have hi : i < cs'.length := (List.getElem?_eq_some_iff.1 hu).1
    have h5 := h4 i (by omega)
    rw [Addr.add_add, hc] at h5
    rw [h5]
    exact hu
end Go.Proofs.YtoceiaaigiflpaaDoor.L
