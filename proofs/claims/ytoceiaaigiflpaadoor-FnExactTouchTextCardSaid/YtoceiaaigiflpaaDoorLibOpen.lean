/- Reading what came in: a slice whose elements can be told is told as a list, in plain Lean over any program of the model; no conditions beyond those each lemma names. -/
import Derived.Test.YtoceiaaigiflpaaDoorWMore
import Derived.Test.YtoceiaaigiflpaaDoorWSized
import Derived.Deep.Slices
import Derived.ChangeArms
import Derived.DataElems
import Derived.DataReads
set_option linter.unusedVariables false
set_option linter.unusedSimpArgs false
namespace Go.Proofs.YtoceiaaigiflpaaDoor.L
open Go.RowKit Go.Proofs.YtoceiaaigiflpaaDoorW.PrintWords
variable {H : Type} {enc : TypeId × Value → H} {P : Program} {w : World} {base : Nat} {sp : Nat → Bool} {held : Bool} {α : Type}

/-- whatever reads at the type t is told by the kind d -/
def TellsK (enc : TypeId × Value → H) (P : Program) (w : World) (base : Nat) (sp : Nat → Bool) (held : Bool) (t : TypeId) (d : Kd α) : Prop :=
  ∀ (fuel : Nat) (cs : List Value) (x : DataW H × List MemPlace), DataW.trod enc P w base sp held fuel t cs = some x → ∃ v, d.K w v cs
theorem choose_list {Q : Nat → α → Prop} : ∀ n : Nat, (∀ i, i < n → ∃ v, Q i v) → ∃ xs : List α, xs.length = n ∧ ∀ j p, xs[j]? = some p → Q j p
  | 0, _ => ⟨[], rfl, fun j p h => by simp at h⟩
  | n + 1, h => by
    obtain ⟨xs, hl, hx⟩ := choose_list n (fun i hi => h i (by omega))
    obtain ⟨v, hv⟩ := h n (by omega)
    refine ⟨xs ++ [v], by simp [hl], fun j p hj => ?_⟩
    by_cases hjn : j < xs.length
    · exact hx j p (by rwa [List.getElem?_append_left hjn] at hj)
    · have hlt := (List.getElem?_eq_some_iff.1 hj).1
      rw [List.length_append, List.length_singleton] at hlt
      obtain rfl : j = n := by omega
      rw [List.getElem?_append_right (by omega), hl, Nat.sub_self] at hj
      obtain rfl : v = p := by simpa using hj
      exact hv
theorem told_rows {d : Kd α} {t e : TypeId} (ht : P.underlying t = some (.slice e)) (hc : P.cellsOf e = d.sz) (hd : TellsK enc P w base sp held e d) {fuel : Nat} {cs : List Value} {x : DataW H × List MemPlace}
    (h : DataW.trod enc P w base sp held fuel t cs = some x) : ∃ (A : Option Addr) (xs : List α) (c : Nat), cs = [.slice A xs.length c] ∧ xs.length ≤ c ∧ Kd.C d w A xs.length xs := by
  rcases Go.Deep.open_slice ht h with ⟨rfl, _⟩ | ⟨a, len, cap, m, n, D, Pl, rfl, hb, hl, hm, hmm, rfl, hx⟩
  · exact ⟨none, [], 0, rfl, Nat.le_refl _, Kd.C_nil d w⟩
  · have hlm : len ≤ m := by rw [hmm]; split <;> omega
    obtain ⟨xs, hxl, hxs⟩ := choose_list (Q := fun i v => ∃ cs', w.cells? base (a.add (i * P.cellsOf e)) (P.cellsOf e) = some cs' ∧ d.K w v cs') len (fun i hi => by
      obtain ⟨cs', h1, h2⟩ := hx i (by omega)
      obtain ⟨v, hv⟩ := hd _ _ _ h2
      exact ⟨v, cs', h1, hv⟩)
    refine ⟨some a, xs, cap, by rw [hxl], by omega, rfl, by unfold maxLen at hm; omega, fun _ => ⟨a, rfl, fun j p hj => ?_⟩⟩
    obtain ⟨cs', h1, h2⟩ := hxs j p hj
    refine ⟨cs', d.K_len h2, h2, fun i u hu => ?_⟩
    obtain ⟨_, h3, h4⟩ := World.cells?_some h1
    have hi : i < cs'.length := (List.getElem?_eq_some_iff.1 hu).1
    have h5 := h4 i (by omega)
    rw [Addr.add_add, hc] at h5
    rw [h5]
    exact hu
theorem told_int {t : TypeId} {k : IntKind} (ht : P.underlying t = some (.int k)) : TellsK enc P w base sp held t (Kd.int k) := fun fuel cs x h => by
  obtain ⟨n, rfl, _, _⟩ := DataW.trod_int ht h
  exact ⟨n, rfl⟩
theorem told_slice {d : Kd α} {t e : TypeId} (ht : P.underlying t = some (.slice e)) (hc : P.cellsOf e = d.sz) (hd : TellsK enc P w base sp held e d) : TellsK enc P w base sp held t (Kd.slice e d) := fun fuel cs x h => by
  obtain ⟨A, xs, c, rfl, hl, hC⟩ := told_rows ht hc hd h
  exact ⟨xs, A, c, rfl, hl, hC⟩
end Go.Proofs.YtoceiaaigiflpaaDoor.L
