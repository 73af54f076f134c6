/- The law FnExactFold holds of the program: whatever its arguments (of the kinds and sizes that the statement names), it answers true. -/
import Derived.Test.YthmbgcpmfmlifaaDoorQFnExactFoldx1
import Derived.Test.YthmbgcpmfmlifaaDoorLib
import Derived.Test.YthmbgcpmfmlifaaDoorLibFold
set_option linter.unusedVariables false
set_option linter.unusedSimpArgs false
namespace Go.Proofs.YthmbgcpmfmlifaaDoor.Pure
open Go.RowKit Go.Proofs.YthmbgcpmfmlifaaDoor.PFnExactFold Go.Proofs.YthmbgcpmfmlifaaDoorW.PrintWords Go.Proofs.YthmbgcpmfmlifaaDoorW.PrintLast Go.Proofs.YthmbgcpmfmlifaaDoor.L 

/-- bytes as numbers -/
def nB (l : List UInt8) : List Int := l.map fun b => (b.toNat : Int)
theorem nB_append (a b : List UInt8) : nB (a ++ b) = nB a ++ nB b := by simp [nB]
theorem nB_length (a : List UInt8) : (nB a).length = a.length := by simp [nB]
theorem bytesOf_nB (s : ByteArray) : bytesOf s = nB s.data.toList := rfl
theorem strOf_nB (l : List UInt8) : strOfNums (nB l) = ⟨l.toArray⟩ := by
  have h : (strOfNums (nB l)).data = l.toArray := by
    unfold strOfNums nB
    simp [Function.comp_def]
  cases hs : strOfNums (nB l) with
  | mk d => rw [hs] at h; rw [← h]

theorem spec_WordOk_l0 (s : ByteArray) (hs : s.size ≤ 140737488351232) (d : Nat) : ∀ (k i : Nat), i ≤ s.size → s.size - i = d → d < k →
    spec_WordOk.l0 k s (i : Int) = some (okB s i) := by
  induction d with
  | zero =>
    intro k i hi hd hk
    obtain ⟨k, rfl⟩ : ∃ q, k = q + 1 := ⟨k - 1, by omega⟩
    rw [spec_WordOk.l0, if_neg (by omega), okB_end (by omega)]
  | succ d ih =>
    intro k i hi hd hk
    obtain ⟨k, rfl⟩ : ∃ q, k = q + 1 := ⟨k - 1, by omega⟩
    have h := ih k (i + 1) (by omega) (by omega) (by omega)
    rw [spec_WordOk.l0, if_pos (by omega), if_pos (by omega)]
    by_cases h1 : bt s (i : Int) < 97
    · rw [if_pos h1, okB_bad (by omega) (.inl h1)]
    · rw [if_neg h1]
      by_cases h2 : bt s (i : Int) > 122
      · rw [if_pos h2, okB_bad (by omega) (.inr h2)]
      · rw [if_neg h2, w64 (by omega) (by omega), okB_step (by omega) (by omega)]
        exact h
theorem spec_WordOk_f (s : ByteArray) (hs : s.size ≤ 140737488351232) {k : Nat} (hk : s.size + 1 < k) : spec_WordOk.f k s = some (wordB s) := by
  obtain ⟨k, rfl⟩ : ∃ q, k = q + 1 := ⟨k - 1, by omega⟩
  unfold spec_WordOk.f wordB
  by_cases h : (s.size : Int) < 1
  · rw [if_pos h, spec_WordOk.j0, if_pos rfl, decide_eq_false (by omega)]; rfl
  · rw [if_neg h, spec_WordOk.j0]
    by_cases h2 : (s.size : Int) > 32
    · rw [if_pos (by simp only [decide_eq_true_eq]; exact h2), decide_eq_false (by omega)]; rfl
    · rw [if_neg (by simp only [decide_eq_true_eq]; exact h2), decide_eq_true (by omega), Bool.true_and]
      exact spec_WordOk_l0 s hs s.size k 0 (by omega) (by omega) (by omega)

theorem within_f (a b c : Int) : impl_within.f a b c = some (decide (b ≤ a ∧ a ≤ c)) := by
  unfold impl_within.f
  by_cases h : a ≥ b
  · rw [if_pos h]; congr 1; rw [decide_eq_decide]; omega
  · rw [if_neg h]; congr 1; symm; rw [decide_eq_false_iff_not]; omega

theorem impl_isWord_l0 (s : ByteArray) (hs : s.size ≤ 140737488351232) (d : Nat) : ∀ (k i : Nat), i ≤ s.size → s.size - i = d → d < k →
    impl_isWord.l0 k s (s.size : Int) (i : Int) = some (okB s i && decide (1 ≤ s.size ∧ s.size ≤ 32)) := by
  induction d with
  | zero =>
    intro k i hi hd hk
    obtain ⟨k, rfl⟩ : ∃ q, k = q + 1 := ⟨k - 1, by omega⟩
    rw [impl_isWord.l0, if_neg (by omega), okB_end (by omega), within_f, Bool.true_and]
    simp only [Option.bind_some]
    congr 1
    rw [decide_eq_decide]; omega
  | succ d ih =>
    intro k i hi hd hk
    obtain ⟨k, rfl⟩ : ∃ q, k = q + 1 := ⟨k - 1, by omega⟩
    have h := ih k (i + 1) (by omega) (by omega) (by omega)
    rw [impl_isWord.l0, if_pos (by omega), if_pos (by omega), if_pos (by omega)]
    by_cases h1 : bt s (i : Int) < 97
    · rw [if_pos h1, okB_bad (by omega) (.inl h1)]; rfl
    · rw [if_neg h1]
      by_cases h2 : bt s (i : Int) > 122
      · rw [if_pos h2, okB_bad (by omega) (.inr h2)]; rfl
      · rw [if_neg h2, w64 (by omega) (by omega), okB_step (by omega) (by omega)]
        exact h
theorem impl_isWord_f (s : ByteArray) (hs : s.size ≤ 140737488351232) {k : Nat} (hk : s.size < k) : impl_isWord.f k s = some (wordB s) := by
  unfold impl_isWord.f wordB
  rw [Bool.and_comm]
  exact impl_isWord_l0 s hs s.size k 0 (by omega) (by omega) (by omega)

theorem spec_Fold_l0 (s : ByteArray) (hs : s.size ≤ 32) (d : Nat) : ∀ (k i : Nat), i + d = s.size → d + 60 < k → spec_Fold.l0 k s (nB ((s.data.toList.map lowB).take i)) (i : Int) = some (if wordB (lowS s) = true then lowS s else ⟨#[]⟩) := by
  induction d with
  | zero =>
    intro k i hi hk
    obtain ⟨k, rfl⟩ : ∃ q, k = q + 1 := ⟨k - 1, by omega⟩
    have hl := size_list s
    rw [spec_Fold.l0, if_neg (by omega), List.take_of_length_le (by rw [List.length_map]; omega), strOf_nB]
    have e : (⟨(s.data.toList.map lowB).toArray⟩ : ByteArray) = lowS s := rfl
    have hz := lowS_size s
    rw [e, spec_WordOk_f (lowS s) (by omega) (by omega), Option.bind_some]
    split <;> rfl
  | succ d ih =>
    intro k i hi hk
    obtain ⟨k, rfl⟩ : ∃ q, k = q + 1 := ⟨k - 1, by omega⟩
    have hl := size_list s
    have hli : i < s.data.toList.length := by omega
    have hb := bt_list s i hli
    have hn := lowB_nat (s.data.toList[i])
    have hlt : (nB ((s.data.toList.map lowB).take i)).length < 140737488355328 := by rw [nB_length, List.length_take]; omega
    have step : ∀ z : Int, z = ((lowB (s.data.toList[i])).toNat : Int) → spec_Fold.l0 k s (nB ((s.data.toList.map lowB).take i) ++ [z]) (wrap64 ((i : Int) + 1)) = some (if wordB (lowS s) = true then lowS s else ⟨#[]⟩) := by
      intro z hz
      rw [w64 (by omega) (by omega), ← ih k (i + 1) (by omega) (by omega), List.take_succ_eq_append_getElem (l := s.data.toList.map lowB) (by rw [List.length_map]; exact hli), List.getElem_map, nB_append, hz]
      rfl
    clear ih
    rw [spec_Fold.l0, if_pos (by omega), if_pos (by omega), hb]
    have hlt2 := (s.data.toList[i]).toNat_lt
    by_cases h1 : ((s.data.toList[i]).toNat : Int) ≥ 65
    · rw [if_pos h1]
      by_cases h2 : ((s.data.toList[i]).toNat : Int) ≤ 90
      · rw [if_pos h2, if_pos hlt]
        exact step _ (by rw [hn, if_pos ⟨h1, h2⟩]; omega)
      · rw [if_neg h2, if_pos hlt]
        exact step _ (by rw [hn, if_neg (by omega)])
    · rw [if_neg h1, if_pos hlt]
      exact step _ (by rw [hn, if_neg (by omega)])
theorem spec_Fold_f (s : ByteArray) {k : Nat} (hk : 200 < k) : spec_Fold.f k s = some (foldS s) := by
  unfold spec_Fold.f foldS
  by_cases h : s.size ≤ 32
  · rw [if_neg (by omega), if_pos h]
    exact spec_Fold_l0 s h s.size k 0 (by omega) (by omega)
  · rw [if_pos (by omega), if_neg h]
theorem impl_Fold_f (s : ByteArray) (hs : s.size < 35184372088832) {k : Nat} (hk : 200 < k) : impl_Fold.f k s = some (foldS s) := by
  have hm := mapD_len lowR s.data.toList
  have hl := size_list s
  have e : strings_Map.f s = some ⟨(Lib.mapD lowR s.data.toList).toArray⟩ := by unfold strings_Map.f; rw [if_pos hs]; rfl
  unfold impl_Fold.f foldS
  rw [e, Option.bind_some]
  by_cases h : s.size ≤ 32
  · have hz : (⟨(Lib.mapD lowR s.data.toList).toArray⟩ : ByteArray).size = (Lib.mapD lowR s.data.toList).length := by simp [ByteArray.size]
    rw [if_neg (by omega), if_pos h, impl_isWord_f _ (by omega) (by omega), Option.bind_some, ← fold_runes s]
    split <;> rfl
  · rw [if_pos (by omega), if_neg h]

theorem FnExactFold : laws_FnExactFold.Pure := by
  intro s hs
  obtain ⟨K, hK⟩ : ∃ K : Nat, 200 < K := ⟨201, Nat.lt_succ_self _⟩
  refine ⟨K, ?_⟩
  unfold laws_FnExactFold.f
  by_cases h : (s.size : Int) > 1048576
  · rw [if_pos h]
  · rw [if_neg h, spec_Fold_f s hK, Option.bind_some, impl_Fold_f s (by omega) hK, Option.bind_some, if_pos rfl]

end Go.Proofs.YthmbgcpmfmlifaaDoor.Pure
