/- The law FnTokens holds of the program: whatever its arguments (of the kinds and sizes that the statement names), it answers true. -/
import Derived.Test.YthmbgcpmfmlifaaDoorQFnTokensx5
import Derived.Test.YthmbgcpmfmlifaaDoorLib
import Derived.Test.YthmbgcpmfmlifaaDoorLibFold
import Derived.Test.YthmbgcpmfmlifaaDoorLibTok
import Derived.Test.YthmbgcpmfmlifaaDoorLibBytes
set_option linter.unusedVariables false
set_option linter.unusedSimpArgs false
namespace Go.Proofs.YthmbgcpmfmlifaaDoor.Pure
open Go.RowKit Go.Proofs.YthmbgcpmfmlifaaDoor.PFnTokens Go.Proofs.YthmbgcpmfmlifaaDoorW.PrintWords Go.Proofs.YthmbgcpmfmlifaaDoorW.PrintLast Go.Proofs.YthmbgcpmfmlifaaDoor.L 

/-- bytes as numbers -/
def nB (l : List UInt8) : List Int := l.map fun b => (b.toNat : Int)
theorem nB_append (a b : List UInt8) : nB (a ++ b) = nB a ++ nB b := by simp [nB]
theorem nB_length (a : List UInt8) : (nB a).length = a.length := by simp [nB]
theorem bytesOf_nB (s : ByteArray) : bytesOf s = nB s.data.toList := rfl
theorem strOf_nB (l : List UInt8) : strOfNums (nB l) = ⟨l.toArray⟩ := by
  have h : (strOfNums (nB l)).data = l.toArray := by
    unfold strOfNums nB
    simp [Function.comp_def]
  cases hs : strOfNums (nB l) with
  | mk d => rw [hs] at h; rw [← h]

theorem spec_WordOk_l0 (s : ByteArray) (hs : s.size ≤ 140737488351232) (d : Nat) : ∀ (k i : Nat), i ≤ s.size → s.size - i = d → d < k →
    spec_WordOk.l0 k s (i : Int) = some (okB s i) := by
  induction d with
  | zero =>
    intro k i hi hd hk
    obtain ⟨k, rfl⟩ : ∃ q, k = q + 1 := ⟨k - 1, by omega⟩
    rw [spec_WordOk.l0, if_neg (by omega), okB_end (by omega)]
  | succ d ih =>
    intro k i hi hd hk
    obtain ⟨k, rfl⟩ : ∃ q, k = q + 1 := ⟨k - 1, by omega⟩
    have h := ih k (i + 1) (by omega) (by omega) (by omega)
    rw [spec_WordOk.l0, if_pos (by omega), if_pos (by omega)]
    by_cases h1 : bt s (i : Int) < 97
    · rw [if_pos h1, okB_bad (by omega) (.inl h1)]
    · rw [if_neg h1]
      by_cases h2 : bt s (i : Int) > 122
      · rw [if_pos h2, okB_bad (by omega) (.inr h2)]
      · rw [if_neg h2, w64 (by omega) (by omega), okB_step (by omega) (by omega)]
        exact h
theorem spec_WordOk_f (s : ByteArray) (hs : s.size ≤ 140737488351232) {k : Nat} (hk : s.size + 1 < k) : spec_WordOk.f k s = some (wordB s) := by
  obtain ⟨k, rfl⟩ : ∃ q, k = q + 1 := ⟨k - 1, by omega⟩
  unfold spec_WordOk.f wordB
  by_cases h : (s.size : Int) < 1
  · rw [if_pos h, spec_WordOk.j0, if_pos rfl, decide_eq_false (by omega)]; rfl
  · rw [if_neg h, spec_WordOk.j0]
    by_cases h2 : (s.size : Int) > 32
    · rw [if_pos (by simp only [decide_eq_true_eq]; exact h2), decide_eq_false (by omega)]; rfl
    · rw [if_neg (by simp only [decide_eq_true_eq]; exact h2), decide_eq_true (by omega), Bool.true_and]
      exact spec_WordOk_l0 s hs s.size k 0 (by omega) (by omega) (by omega)

theorem within_f (a b c : Int) : impl_within.f a b c = some (decide (b ≤ a ∧ a ≤ c)) := by
  unfold impl_within.f
  by_cases h : a ≥ b
  · rw [if_pos h]; congr 1; rw [decide_eq_decide]; omega
  · rw [if_neg h]; congr 1; symm; rw [decide_eq_false_iff_not]; omega

theorem impl_isWord_l0 (s : ByteArray) (hs : s.size ≤ 140737488351232) (d : Nat) : ∀ (k i : Nat), i ≤ s.size → s.size - i = d → d < k →
    impl_isWord.l0 k s (s.size : Int) (i : Int) = some (okB s i && decide (1 ≤ s.size ∧ s.size ≤ 32)) := by
  induction d with
  | zero =>
    intro k i hi hd hk
    obtain ⟨k, rfl⟩ : ∃ q, k = q + 1 := ⟨k - 1, by omega⟩
    rw [impl_isWord.l0, if_neg (by omega), okB_end (by omega), within_f, Bool.true_and]
    simp only [Option.bind_some]
    congr 1
    rw [decide_eq_decide]; omega
  | succ d ih =>
    intro k i hi hd hk
    obtain ⟨k, rfl⟩ : ∃ q, k = q + 1 := ⟨k - 1, by omega⟩
    have h := ih k (i + 1) (by omega) (by omega) (by omega)
    rw [impl_isWord.l0, if_pos (by omega), if_pos (by omega), if_pos (by omega)]
    by_cases h1 : bt s (i : Int) < 97
    · rw [if_pos h1, okB_bad (by omega) (.inl h1)]; rfl
    · rw [if_neg h1]
      by_cases h2 : bt s (i : Int) > 122
      · rw [if_pos h2, okB_bad (by omega) (.inr h2)]; rfl
      · rw [if_neg h2, w64 (by omega) (by omega), okB_step (by omega) (by omega)]
        exact h
theorem impl_isWord_f (s : ByteArray) (hs : s.size ≤ 140737488351232) {k : Nat} (hk : s.size < k) : impl_isWord.f k s = some (wordB s) := by
  unfold impl_isWord.f wordB
  rw [Bool.and_comm]
  exact impl_isWord_l0 s hs s.size k 0 (by omega) (by omega) (by omega)

theorem spec_Fold_l0 (s : ByteArray) (hs : s.size ≤ 32) (d : Nat) : ∀ (k i : Nat), i + d = s.size → d + 60 < k → spec_Fold.l0 k s (nB ((s.data.toList.map lowB).take i)) (i : Int) = some (if wordB (lowS s) = true then lowS s else ⟨#[]⟩) := by
  induction d with
  | zero =>
    intro k i hi hk
    obtain ⟨k, rfl⟩ : ∃ q, k = q + 1 := ⟨k - 1, by omega⟩
    have hl := size_list s
    rw [spec_Fold.l0, if_neg (by omega), List.take_of_length_le (by rw [List.length_map]; omega), strOf_nB]
    have e : (⟨(s.data.toList.map lowB).toArray⟩ : ByteArray) = lowS s := rfl
    have hz := lowS_size s
    rw [e, spec_WordOk_f (lowS s) (by omega) (by omega), Option.bind_some]
    split <;> rfl
  | succ d ih =>
    intro k i hi hk
    obtain ⟨k, rfl⟩ : ∃ q, k = q + 1 := ⟨k - 1, by omega⟩
    have hl := size_list s
    have hli : i < s.data.toList.length := by omega
    have hb := bt_list s i hli
    have hn := lowB_nat (s.data.toList[i])
    have hlt : (nB ((s.data.toList.map lowB).take i)).length < 140737488355328 := by rw [nB_length, List.length_take]; omega
    have step : ∀ z : Int, z = ((lowB (s.data.toList[i])).toNat : Int) → spec_Fold.l0 k s (nB ((s.data.toList.map lowB).take i) ++ [z]) (wrap64 ((i : Int) + 1)) = some (if wordB (lowS s) = true then lowS s else ⟨#[]⟩) := by
      intro z hz
      rw [w64 (by omega) (by omega), ← ih k (i + 1) (by omega) (by omega), List.take_succ_eq_append_getElem (l := s.data.toList.map lowB) (by rw [List.length_map]; exact hli), List.getElem_map, nB_append, hz]
      rfl
    clear ih
    rw [spec_Fold.l0, if_pos (by omega), if_pos (by omega), hb]
    have hlt2 := (s.data.toList[i]).toNat_lt
    by_cases h1 : ((s.data.toList[i]).toNat : Int) ≥ 65
    · rw [if_pos h1]
      by_cases h2 : ((s.data.toList[i]).toNat : Int) ≤ 90
      · rw [if_pos h2, if_pos hlt]
        exact step _ (by rw [hn, if_pos ⟨h1, h2⟩]; omega)
      · rw [if_neg h2, if_pos hlt]
        exact step _ (by rw [hn, if_neg (by omega)])
    · rw [if_neg h1, if_pos hlt]
      exact step _ (by rw [hn, if_neg (by omega)])
theorem spec_Fold_f (s : ByteArray) {k : Nat} (hk : 200 < k) : spec_Fold.f k s = some (foldS s) := by
  unfold spec_Fold.f foldS
  by_cases h : s.size ≤ 32
  · rw [if_neg (by omega), if_pos h]
    exact spec_Fold_l0 s h s.size k 0 (by omega) (by omega)
  · rw [if_pos (by omega), if_neg h]
theorem impl_Fold_f (s : ByteArray) (hs : s.size < 35184372088832) {k : Nat} (hk : 200 < k) : impl_Fold.f k s = some (foldS s) := by
  have hm := mapD_len lowR s.data.toList
  have hl := size_list s
  have e : strings_Map.f s = some ⟨(Lib.mapD lowR s.data.toList).toArray⟩ := by unfold strings_Map.f; rw [if_pos hs]; rfl
  unfold impl_Fold.f foldS
  rw [e, Option.bind_some]
  by_cases h : s.size ≤ 32
  · have hz : (⟨(Lib.mapD lowR s.data.toList).toArray⟩ : ByteArray).size = (Lib.mapD lowR s.data.toList).length := by simp [ByteArray.size]
    rw [if_neg (by omega), if_pos h, impl_isWord_f _ (by omega) (by omega), Option.bind_some, ← fold_runes s]
    split <;> rfl
  · rw [if_pos (by omega), if_neg h]

theorem gap_f (b : UInt8) : spec_l01Gap.f (b.toNat : Int) = some (gapB b) := by
  unfold spec_l01Gap.f
  by_cases h1 : (b.toNat : Int) = 9
  · rw [if_pos h1]; congr 1; unfold gapB gapN; simp; omega
  · rw [if_neg h1]
    by_cases h2 : (b.toNat : Int) = 10
    · rw [if_pos h2]; congr 1; unfold gapB gapN; simp; omega
    · rw [if_neg h2]
      by_cases h3 : (b.toNat : Int) = 13
      · rw [if_pos h3]; congr 1; unfold gapB gapN; simp; omega
      · rw [if_neg h3]; congr 1; unfold gapB gapN
        rw [Bool.eq_iff_iff]
        simp
        omega
theorem rdOf_lt {xs : List ByteArray} {i : Nat} (h : i < xs.length) : rdOf ByteArray.empty xs (i : Int) = xs[i] := by
  unfold rdOf
  rw [Int.toNat_natCast, List.getD_eq_getElem?_getD]
  simp [h]
theorem tok_l1 (s : ByteArray) (hs : s.size ≤ 2000) (n : Int) (out : List ByteArray) (i : Int) (d : Nat) : ∀ (k j : Nat), j + d = s.size → d < k →
    ∃ k', k ≤ k' + d + 1 ∧ spec_Tokens.l1 k s n out i (j : Int) = spec_Tokens.j4 k' s n out i ((j + ((s.data.toList.drop j).takeWhile ng).length : Nat) : Int) := by
  induction d with
  | zero =>
    intro k j hj hk
    obtain ⟨k, rfl⟩ : ∃ q, k = q + 1 := ⟨k - 1, by omega⟩
    refine ⟨k, by omega, ?_⟩
    rw [spec_Tokens.l1, if_neg (by omega), List.drop_eq_nil_of_le (by rw [← size_list]; omega)]
    rfl
  | succ d ih =>
    intro k j hj hk
    obtain ⟨k, rfl⟩ : ∃ q, k = q + 1 := ⟨k - 1, by omega⟩
    have hl := size_list s
    have hlj : j < s.data.toList.length := by omega
    have hd := List.drop_eq_getElem_cons hlj
    cases hg : gapB (s.data.toList[j]) with
    | true =>
      have hn : ng (s.data.toList[j]) = false := by unfold ng; rw [hg]; rfl
      refine ⟨k, by omega, ?_⟩
      rw [spec_Tokens.l1, if_pos (by omega), if_pos (by omega), bt_list s j hlj, gap_f, hg, Option.bind_some, if_pos rfl, hd, List.takeWhile_cons_of_neg (by rw [hn]; decide)]
      rfl
    | false =>
      have hn : ng (s.data.toList[j]) = true := by unfold ng; rw [hg]; rfl
      obtain ⟨k', hk', e⟩ := ih k (j + 1) (by omega) (by omega)
      refine ⟨k', by omega, ?_⟩
      rw [spec_Tokens.l1, if_pos (by omega), if_pos (by omega), bt_list s j hlj, gap_f, hg, Option.bind_some, if_neg (by decide), w64 (by omega) (by omega), show ((j : Int) + 1) = ((j + 1 : Nat) : Int) from rfl, e, hd, List.takeWhile_cons_of_pos hn, List.length_cons]
      congr 2
      omega
theorem tok_l2 (n : Nat) (hn : n ≤ 16) (m : Nat) : ∀ (k : Nat) (out : List ByteArray), out.length + m = n → m < k → spec_Tokens.l2 k (n : Int) out = some (out ++ List.replicate m ⟨#[]⟩, true) := by
  induction m with
  | zero =>
    intro k out ho hk
    obtain ⟨k, rfl⟩ : ∃ q, k = q + 1 := ⟨k - 1, by omega⟩
    rw [spec_Tokens.l2, if_neg (by omega)]
    simp
  | succ m ih =>
    intro k out ho hk
    obtain ⟨k, rfl⟩ : ∃ q, k = q + 1 := ⟨k - 1, by omega⟩
    rw [spec_Tokens.l2, if_pos (by omega), if_pos (by omega), ih k _ (by simp; omega) (by omega), List.replicate_succ, List.append_assoc]
    rfl
/-- does a token that stands at i begin there -/
def pg (s : ByteArray) (i : Nat) : Bool := i == 0 || gapB (s.data.toList.getD (i - 1) 0)
/-- the tokens that begin from i on -/
def rest (s : ByteArray) (i : Nat) : List (List UInt8) := if pg s i = true then fl [] (s.data.toList.drop i) else fl [] ((s.data.toList.drop i).dropWhile ng)
theorem pg_next (s : ByteArray) (i : Nat) (h : i < s.data.toList.length) : pg s (i + 1) = gapB (s.data.toList[i]) := by
  unfold pg
  rw [List.getD_eq_getElem?_getD, Nat.add_sub_cancel, List.getElem?_eq_getElem h]
  simp
theorem rest_gap (s : ByteArray) (i : Nat) (h : i < s.data.toList.length) (hg : gapB (s.data.toList[i]) = true) : rest s i = rest s (i + 1) := by
  unfold rest
  rw [pg_next s i h, hg, if_pos rfl, List.drop_eq_getElem_cons h]
  split
  · rw [fl_gap hg]
  · rw [fl_rest_gap hg]
theorem rest_in (s : ByteArray) (i : Nat) (h : i < s.data.toList.length) (hg : gapB (s.data.toList[i]) = false) (hp : pg s i = false) : rest s i = rest s (i + 1) := by
  unfold rest
  rw [pg_next s i h, hg, hp, if_neg (by decide), if_neg (by decide), List.drop_eq_getElem_cons h, fl_rest_ng hg]
theorem rest_start (s : ByteArray) (i : Nat) (h : i < s.data.toList.length) (hg : gapB (s.data.toList[i]) = false) (hp : pg s i = true) : rest s i = (s.data.toList.drop i).takeWhile ng :: rest s (i + 1) := by
  unfold rest
  rw [pg_next s i h, hg, hp, if_pos rfl, if_neg (by decide), List.drop_eq_getElem_cons h, fl_start hg]
theorem tok_l0 (s : ByteArray) (hs : s.size ≤ 2000) (n : Nat) (hn : n ≤ 16) (c : Nat) (hc : 2100 ≤ c) (d : Nat) : ∀ (k i : Nat) (out : List ByteArray), i + d = s.size → d * c + 300 < k → out.length ≤ n →
    spec_Tokens.l0 k s (n : Int) out (i : Int) = some (tkR n (out ++ ((rest s i).map mkB).map word)) := by
  induction d with
  | zero =>
    intro k i out hi hk ho
    obtain ⟨k, rfl⟩ : ∃ q, k = q + 1 := ⟨k - 1, by omega⟩
    have e : rest s i = [] := by
      unfold rest
      rw [List.drop_eq_nil_of_le (by rw [← size_list]; omega)]
      split <;> rfl
    rw [spec_Tokens.l0, if_neg (by omega), tok_l2 n hn (n - out.length) k out (by omega) (by omega), e]
    unfold tkR
    simp [ho]
  | succ d ih =>
    intro k i out hi hk ho
    rw [Nat.succ_mul] at hk
    obtain ⟨k, rfl⟩ : ∃ q, k = q + 1 + 1 := ⟨k - 2, by omega⟩
    have hl := size_list s
    have hli : i < s.data.toList.length := by omega
    have skip : rest s i = rest s (i + 1) → spec_Tokens.j2 (k + 1) s (n : Int) out (i : Int) true = some (tkR n (out ++ ((rest s i).map mkB).map word)) := by
      intro h
      rw [spec_Tokens.j2, if_pos rfl, w64 (by omega) (by omega), show ((i : Int) + 1) = ((i + 1 : Nat) : Int) from rfl, ih k (i + 1) out (by omega) (by omega) ho, h]
    have start : gapB (s.data.toList[i]) = false → pg s i = true → spec_Tokens.j2 (k + 1) s (n : Int) out (i : Int) false = some (tkR n (out ++ ((rest s i).map mkB).map word)) := by
      intro hg hp
      obtain ⟨k', hk', e⟩ := tok_l1 s hs (n : Int) out (i : Int) (d + 1) k i (by omega) (by omega)
      obtain ⟨k'', rfl⟩ : ∃ q, k' = q + 1 := ⟨k' - 1, by omega⟩
      rw [spec_Tokens.j2, if_neg (by decide), e, rest_start s i hli hg hp, spec_Tokens.j4]
      have htw := tw_len (s.data.toList.drop i)
      rw [List.length_drop] at htw
      by_cases hon : (out.length : Int) = (n : Int)
      · rw [if_pos hon]
        unfold tkR
        rw [if_neg (by simp; omega)]
      · have htake : (s.data.toList.drop i).take ((s.data.toList.drop i).takeWhile ng).length = (s.data.toList.drop i).takeWhile ng := by
          have h := List.takeWhile_append_dropWhile (p := ng) (l := s.data.toList.drop i)
          generalize List.takeWhile ng (List.drop i s.data.toList) = A at h ⊢
          rw [← h, List.take_left]
        rw [if_neg hon, if_pos (by omega), if_pos (by omega), if_pos (by omega), Int.toNat_natCast, Int.toNat_natCast, ext_mkB, Nat.add_sub_cancel_left, htake, spec_Fold_f _ (by omega), Option.bind_some, w64 (by omega) (by omega), show ((i : Int) + 1) = ((i + 1 : Nat) : Int) from rfl]
        have go : ∀ x : ByteArray, x = word (mkB ((s.data.toList.drop i).takeWhile ng)) → spec_Tokens.l0 k'' s (n : Int) (out ++ [x]) ((i + 1 : Nat) : Int) = some (tkR n (out ++ (((s.data.toList.drop i).takeWhile ng :: rest s (i + 1)).map mkB).map word)) := by
          intro x hx
          rw [ih k'' (i + 1) (out ++ [x]) (by omega) (by omega) (by simp; omega), hx]
          simp
        by_cases hw : foldS (mkB ((s.data.toList.drop i).takeWhile ng)) = ⟨#[]⟩
        · rw [if_pos ((toList_nil _).2 hw), if_pos (by omega)]
          exact go _ (by unfold word; rw [if_pos hw])
        · rw [if_neg (fun h => hw ((toList_nil _).1 h)), if_pos (by omega)]
          exact go _ (by unfold word; rw [if_neg hw])
    rw [spec_Tokens.l0, if_pos (by omega), if_pos (by omega), bt_list s i hli, gap_f, Option.bind_some]
    cases hg : gapB (s.data.toList[i]) with
    | true =>
      rw [if_pos rfl]
      exact skip (rest_gap s i hli hg)
    | false =>
      rw [if_neg (by decide)]
      by_cases h0 : i = 0
      · subst h0
        rw [if_neg (by omega)]
        exact start hg rfl
      · obtain ⟨i, rfl⟩ : ∃ q, i = q + 1 := ⟨i - 1, by omega⟩
        have hli' : i < s.data.toList.length := by omega
        have hp := pg_next s i hli'
        rw [if_pos (by omega), w64 (by omega) (by omega), show (((i + 1 : Nat) : Int) - 1) = (i : Int) from by omega, if_pos (by omega), if_pos (by omega), bt_list s i hli', gap_f, Option.bind_some]
        cases hg2 : gapB (s.data.toList[i]) with
        | true => exact start hg (by rw [hp, hg2])
        | false => exact skip (rest_in s (i + 1) hli hg (by rw [hp, hg2]))
theorem spec_Tokens_f (s : ByteArray) (n : Int) {k : Nat} (hk : 4200400 < k) : spec_Tokens.f k s n = some (tk s n) := by
  obtain ⟨k, rfl⟩ : ∃ q, k = q + 1 := ⟨k - 1, by omega⟩
  unfold spec_Tokens.f tk
  have no : ∀ (h : ¬ (s.size ≤ 2000 ∧ 1 ≤ n ∧ n ≤ 16)), spec_Tokens.j0 (k + 1) s n true = some (if s.size ≤ 2000 ∧ 1 ≤ n ∧ n ≤ 16 then tkR n.toNat ((toks s).map word) else ([], false)) := by
    intro h
    rw [spec_Tokens.j0, if_pos rfl, if_neg h]
  by_cases h1 : (s.size : Int) > 2000
  · rw [if_pos h1]; exact no (by omega)
  · rw [if_neg h1]
    by_cases h2 : n < 1
    · rw [if_pos h2]; exact no (by omega)
    · rw [if_neg h2]
      by_cases h3 : n > 16
      · rw [decide_eq_true h3]; exact no (by omega)
      · rw [decide_eq_false h3, spec_Tokens.j0, if_neg (by decide), if_pos (by omega)]
        obtain ⟨m, rfl⟩ := Int.eq_ofNat_of_zero_le (show 0 ≤ n by omega)
        have := tok_l0 s (by omega) m (by omega) 2100 (Nat.le_refl _) s.size k 0 [] (by omega) (by have := Nat.mul_le_mul_right 2100 (show s.size ≤ 2000 by omega); omega) (by simp)
        rw [show ((0 : Nat) : Int) = 0 from rfl] at this
        rw [this, Int.toNat_natCast]
        congr 1
theorem fl_mem (t : List UInt8) : ∀ (cur x : List UInt8), x ∈ fl cur t → x.length ≤ cur.length + t.length := by
  induction t with
  | nil =>
    intro cur x hx
    unfold fl at hx
    split at hx
    · cases hx
    · rw [List.mem_singleton.1 hx]; simp
  | cons b t ih =>
    intro cur x hx
    unfold fl at hx
    split at hx
    · rcases List.mem_append.1 hx with h | h
      · split at h
        · cases h
        · rw [List.mem_singleton.1 h]; simp
      · have := ih [] x h
        simp at this ⊢
        omega
    · have := ih _ x hx
      simp at this ⊢
      omega
theorem toks_size (s t : ByteArray) (h : t ∈ toks s) : t.size ≤ s.size := by
  obtain ⟨x, hx, rfl⟩ := List.mem_map.1 h
  have := fl_mem _ _ _ hx
  rw [size_list, size_list s, mkB_list]
  simpa using this
theorem impl_tok_l0 (ts : List ByteArray) (n : Nat) (hn : n ≤ 16) (htn : ts.length ≤ n) (hsz : ∀ t ∈ ts, t.size ≤ 1000000) (d : Nat) : ∀ (k i : Nat), i + d = ts.length → d + 300 < k →
    impl_Tokens.l0 k ((ts.map word).take i ++ List.replicate (n - i) ⟨#[]⟩) ts (ts.length : Int) (i : Int) = some ((ts.map word) ++ List.replicate (n - ts.length) ⟨#[]⟩, true) := by
  induction d with
  | zero =>
    intro k i hi hk
    obtain ⟨k, rfl⟩ : ∃ q, k = q + 1 := ⟨k - 1, by omega⟩
    obtain rfl : i = ts.length := by omega
    rw [impl_Tokens.l0, if_neg (by omega), List.take_of_length_le (by simp)]
  | succ d ih =>
    intro k i hi hk
    obtain ⟨k, rfl⟩ : ∃ q, k = q + 1 := ⟨k - 1, by omega⟩
    have hli : i < ts.length := by omega
    have hm : ts[i] ∈ ts := List.getElem_mem hli
    have hz := hsz _ hm
    have hlen : ((ts.map word).take i ++ List.replicate (n - i) (⟨#[]⟩ : ByteArray)).length = n := by simp; omega
    have hset : ∀ v : ByteArray, ((ts.map word).take i ++ List.replicate (n - i) (⟨#[]⟩ : ByteArray)).set i v = (ts.map word).take i ++ v :: List.replicate (n - (i + 1)) ⟨#[]⟩ := by
      intro v
      have hti : ((ts.map word).take i).length = i := by simp; omega
      rw [show n - i = (n - (i + 1)) + 1 from by omega, List.replicate_succ, List.set_append_right _ _ (by omega), hti, Nat.sub_self]
      rfl
    have hset2 : ∀ v u : ByteArray, ((ts.map word).take i ++ v :: List.replicate (n - (i + 1)) (⟨#[]⟩ : ByteArray)).set i u = (ts.map word).take i ++ u :: List.replicate (n - (i + 1)) ⟨#[]⟩ := by
      intro v u
      have hti : ((ts.map word).take i).length = i := by simp; omega
      rw [List.set_append_right _ _ (by omega), hti, Nat.sub_self]
      rfl
    have hrd : ∀ v : ByteArray, rdOf ByteArray.empty ((ts.map word).take i ++ v :: List.replicate (n - (i + 1)) (⟨#[]⟩ : ByteArray)) (i : Int) = v := by
      intro v
      have hti : ((ts.map word).take i).length = i := by simp; omega
      unfold rdOf
      rw [Int.toNat_natCast, List.getD_eq_getElem?_getD, List.getElem?_append_right (by omega), hti, Nat.sub_self]
      rfl
    have go : ∀ x : ByteArray, x = word ts[i] → impl_Tokens.l0 k ((ts.map word).take i ++ x :: List.replicate (n - (i + 1)) ⟨#[]⟩) ts (ts.length : Int) (wrap64 ((i : Int) + 1)) = some ((ts.map word) ++ List.replicate (n - ts.length) ⟨#[]⟩, true) := by
      intro x hx
      rw [w64 (by omega) (by omega), ← ih k (i + 1) (by omega) (by omega), List.take_succ_eq_append_getElem (l := ts.map word) (by simpa using hli), List.getElem_map, hx, List.append_assoc]
      rfl
    clear ih
    rw [impl_Tokens.l0, if_pos (by omega), if_pos (by omega), if_pos (by omega), rdOf_lt hli, impl_Fold_f _ (by omega) (by omega), Option.bind_some, if_pos (by omega), Option.bind_some, Int.toNat_natCast, hset, hrd]
    by_cases hw : foldS ts[i] = ⟨#[]⟩
    · rw [if_pos ((toList_nil _).2 hw), hset2]
      exact go _ (by unfold word; rw [if_pos hw])
    · rw [if_neg (fun h => hw ((toList_nil _).1 h))]
      exact go _ (by unfold word; rw [if_neg hw])
theorem impl_Tokens_f (s : ByteArray) (n : Int) {k : Nat} (hk : 400 < k) : impl_Tokens.f k s n = some (tk s n) := by
  obtain ⟨k, rfl⟩ : ∃ q, k = q + 1 := ⟨k - 1, by omega⟩
  unfold impl_Tokens.f tk
  have no : ∀ (h : ¬ (s.size ≤ 2000 ∧ 1 ≤ n ∧ n ≤ 16)), impl_Tokens.j0 (k + 1) s n true = some (if s.size ≤ 2000 ∧ 1 ≤ n ∧ n ≤ 16 then tkR n.toNat ((toks s).map word) else ([], false)) := by
    intro h
    rw [impl_Tokens.j0, if_pos rfl, if_neg h]
  by_cases h1 : (s.size : Int) > 2000
  · rw [if_pos h1]; exact no (by omega)
  · rw [if_neg h1, within_f, Option.bind_some]
    by_cases h2 : 1 ≤ n ∧ n ≤ 16
    · obtain ⟨m, rfl⟩ := Int.eq_ofNat_of_zero_le (show 0 ≤ n by omega)
      have hf : strings_FieldsFunc.f s = some (toks s) := by
        unfold strings_FieldsFunc.f
        rw [if_pos (by omega), ← goFields_toks]
        rfl
      rw [if_pos (show s.size ≤ 2000 ∧ 1 ≤ (m : Int) ∧ (m : Int) ≤ 16 from ⟨by omega, h2⟩), decide_eq_true h2, impl_Tokens.j0, if_neg (by decide), hf, Option.bind_some, Int.toNat_natCast]
      unfold tkR
      by_cases h3 : ((toks s).length : Int) > (m : Int)
      · rw [if_pos h3, if_neg (by rw [List.length_map]; omega)]
      · rw [if_neg h3, if_pos (by omega), if_pos (by omega), if_pos (by rw [List.length_map]; omega)]
        have := impl_tok_l0 (toks s) m (by omega) (by omega) (fun t ht => by have := toks_size s t ht; omega) (toks s).length k 0 (by omega) (by omega)
        rw [List.length_map]
        simpa using this
    · rw [decide_eq_false h2]; exact no (by omega)

/-- a reader of draws: how far it is, and its seed -/
def Cur (p s B : Int) : Prop := 0 ≤ p ∧ p ≤ B ∧ 0 ≤ s ∧ s < 65521
theorem Cur.le {p s B C : Int} (h : Cur p s B) (hB : B ≤ C) : Cur p s C := ⟨h.1, by have := h.2.1; omega, h.2.2⟩
theorem pick_f (L : List Int) (hL : U8s L) (n : Int) {p s B : Int} (h : Cur p s B) (hB : B ≤ 1000000000000) (hn : n ≤ 1000000000000) :
    ∃ r p' s', spec_l01Cur_pick.f L p s n = some (r, p', s') ∧ 0 ≤ r ∧ (r < n ∨ n < 2 ∧ r = 0) ∧ Cur p' s' (B + 1) := by
  obtain ⟨h0, h1, h2, h3⟩ := h
  unfold spec_l01Cur_pick.f
  by_cases c1 : n < 2
  · rw [if_pos c1]
    exact ⟨0, p, s, rfl, by omega, .inr ⟨c1, rfl⟩, h0, by omega, h2, h3⟩
  · rw [if_neg c1]
    have hw : wrap64 (wrap64 (s * 1103) + 12345) = s * 1103 + 12345 := by rw [w64 (n := s * 1103) (by omega) (by omega), w64 (by omega) (by omega)]
    have hs0 : 0 ≤ Int.tmod (s * 1103 + 12345) 65521 := Int.tmod_nonneg _ (by omega)
    have hs1 : Int.tmod (s * 1103 + 12345) 65521 < 65521 := Int.tmod_lt_of_pos _ (by decide)
    rw [hw, w64 (n := p + 1) (by omega) (by omega)]
    by_cases c2 : p < (L.length : Int)
    · have hb := hL p.toNat (by omega)
      rw [Int.toNat_of_nonneg h0] at hb
      rw [if_pos c2, if_pos h0, if_neg (by omega), w64 (by omega) (by omega)]
      refine ⟨_, _, _, rfl, Int.tmod_nonneg _ (by omega), .inl (Int.tmod_lt_of_pos _ (by omega)), ?_⟩
      exact ⟨by omega, by omega, h2, h3⟩
    · rw [if_neg c2]
      by_cases c3 : (L.length : Int) > 0
      · have hm0 : 0 ≤ Int.tmod p (L.length : Int) := Int.tmod_nonneg _ h0
        have hm1 : Int.tmod p (L.length : Int) < (L.length : Int) := Int.tmod_lt_of_pos _ c3
        have hb := hL (Int.tmod p (L.length : Int)).toNat (by omega)
        rw [Int.toNat_of_nonneg hm0] at hb
        have hq0 : 0 ≤ Int.tdiv (Int.tmod (s * 1103 + 12345) 65521) 7 := Int.tdiv_nonneg hs0 (by decide)
        have hq1 : Int.tdiv (Int.tmod (s * 1103 + 12345) 65521) 7 < 65521 := by
          rw [Int.tdiv_eq_ediv_of_nonneg hs0]; omega
        rw [if_pos c3, if_neg (by omega), if_pos hm0, if_pos hm1, if_neg (by omega)]
        rw [w64 (n := Int.tdiv (Int.tmod (s * 1103 + 12345) 65521) 7) (by omega) (by omega), w64 (n := rd L (Int.tmod p (L.length : Int))) (by omega) (by omega), w64 (by omega) (by omega)]
        refine ⟨_, _, _, rfl, Int.tmod_nonneg _ (by omega), .inl (Int.tmod_lt_of_pos _ (by omega)), ?_⟩
        exact ⟨by omega, by omega, hs0, hs1⟩
      · rw [if_neg c3, if_neg (by omega)]
        refine ⟨_, _, _, rfl, Int.emod_nonneg _ (by omega), .inl (Int.emod_lt_of_pos _ (by omega)), ?_⟩
        exact ⟨by omega, by omega, hs0, hs1⟩

theorem strOfNums_sz (xs : List Int) : (strOfNums xs).size = xs.length := strOfNums_size xs
theorem word_l0 (L : List Int) (hL : U8s L) (n : Int) (hn : n ≤ 32) (d : Nat) : ∀ (k : Nat) (xs : List Int) (p s B : Int), n - (xs.length : Int) ≤ (d : Int) → xs.length ≤ 32 → d < k → Cur p s B → B + 2 * d ≤ 1000000000000 →
    ∃ w p' s', spec_l01Cur_word.l0 k n xs L p s = some (w, p', s') ∧ w.size ≤ 32 ∧ Cur p' s' (B + 2 * d) := by
  induction d with
  | zero =>
    intro k xs p s B hd hl hk hc hB
    obtain ⟨k, rfl⟩ : ∃ q, k = q + 1 := ⟨k - 1, by omega⟩
    exact ⟨_, p, s, by rw [spec_l01Cur_word.l0, if_neg (by omega)], by rw [strOfNums_sz]; omega, hc.le (by omega)⟩
  | succ d ih =>
    intro k xs p s B hd hl hk hc hB
    obtain ⟨k, rfl⟩ : ∃ q, k = q + 1 := ⟨k - 1, by omega⟩
    by_cases h : (xs.length : Int) < n
    · obtain ⟨v, p1, s1, e1, v0, v1, c1⟩ := pick_f L hL 3 hc (by omega) (by decide)
      obtain ⟨v, rfl⟩ := Int.eq_ofNat_of_zero_le v0
      have hr : rd [2, 3, 26] (v : Int) ≤ 26 := by
        have : v = 0 ∨ v = 1 ∨ v = 2 := by omega
        rcases this with rfl | rfl | rfl <;> decide
      obtain ⟨u, p2, s2, e2, u0, u1, c2⟩ := pick_f L hL (rd [2, 3, 26] (v : Int)) c1 (by omega) (by omega)
      obtain ⟨w, p3, s3, e3, hw, c3⟩ := ih k (xs ++ [wrap64 (97 + u) % 256]) p2 s2 (B + 1 + 1) (by simp; omega) (by simp; omega) (by omega) c2 (by omega)
      refine ⟨w, p3, s3, ?_, hw, c3.le (by omega)⟩
      rw [spec_l01Cur_word.l0, if_pos h, Option.bind_some, e1, Option.bind_some]
      dsimp only
      rw [if_pos v0, if_pos (by simp; omega), e2, Option.bind_some]
      dsimp only
      rw [if_pos (by omega)]
      exact e3
    · exact ⟨_, p, s, by rw [spec_l01Cur_word.l0, if_neg h], by rw [strOfNums_sz]; omega, hc.le (by omega)⟩
theorem word_f (L : List Int) (hL : U8s L) {p s B : Int} (hc : Cur p s B) (hB : B ≤ 1000000000) {k : Nat} (hk : 40 < k) :
    ∃ w p' s', spec_l01Cur_word.f k L p s = some (w, p', s') ∧ w.size ≤ 32 ∧ Cur p' s' (B + 70) := by
  obtain ⟨v, p1, s1, e1, v0, v1, c1⟩ := pick_f L hL 4 hc (by omega) (by decide)
  obtain ⟨v, rfl⟩ := Int.eq_ofNat_of_zero_le v0
  have hr : rd [3, 5, 8, 32] (v : Int) ≤ 32 ∧ 2 ≤ rd [3, 5, 8, 32] (v : Int) := by
    have : v = 0 ∨ v = 1 ∨ v = 2 ∨ v = 3 := by omega
    rcases this with rfl | rfl | rfl | rfl <;> decide
  obtain ⟨u, p2, s2, e2, u0, u1, c2⟩ := pick_f L hL (rd [3, 5, 8, 32] (v : Int)) c1 (by omega) (by omega)
  obtain ⟨w, p3, s3, e3, hw, c3⟩ := word_l0 L hL (1 + u) (by omega) 32 k [] p2 s2 (B + 1 + 1) (by simp; omega) (by simp) (by omega) c2 (by omega)
  refine ⟨w, p3, s3, ?_, hw, c3.le (by omega)⟩
  unfold spec_l01Cur_word.f
  rw [Option.bind_some, e1, Option.bind_some]
  dsimp only
  rw [if_pos v0, if_pos (by simp; omega), e2, Option.bind_some]
  dsimp only
  rw [w64 (by omega) (by omega)]
  exact e3

theorem ex0 (s : ByteArray) (i : Nat) : (s.extract 0 i).size ≤ s.size := by rw [ByteArray.size_extract]; omega
theorem ex1 (s : ByteArray) (i : Nat) : (s.extract i s.size).size ≤ s.size := by rw [ByteArray.size_extract]; omega
theorem badWord_f (L : List Int) (hL : U8s L) {p s B : Int} (hc : Cur p s B) (hB : B ≤ 900000000) {k : Nat} (hk : 40 < k) :
    ∃ w p' s', spec_l01Cur_badWord.f k L p s = some (w, p', s') ∧ w.size ≤ 96 ∧ Cur p' s' (B + 73) := by
  obtain ⟨w, p1, s1, e1, hw, c1⟩ := word_f L hL hc (by omega) hk
  obtain ⟨v, p2, s2, e2, v0, v1, c2⟩ := pick_f L hL 9 c1 (by omega) (by decide)
  unfold spec_l01Cur_badWord.f
  rw [e1, Option.bind_some]
  dsimp only
  rw [e2, Option.bind_some]
  dsimp only
  by_cases h0 : v = 0
  · rw [if_pos h0, w64 (by omega) (by omega)]
    obtain ⟨u, p3, s3, e3, u0, u1, c3⟩ := pick_f L hL ((w.size : Int) + 1) c2 (by omega) (by omega)
    obtain ⟨x, p4, s4, e4, x0, x1, c4⟩ := pick_f L hL 6 c3 (by omega) (by decide)
    obtain ⟨x, rfl⟩ := Int.eq_ofNat_of_zero_le x0
    rw [e3, Option.bind_some]
    dsimp only
    rw [if_pos u0, if_pos (by omega), Option.bind_some, e4, Option.bind_some]
    dsimp only
    rw [if_pos x0, if_pos (by simp; omega)]
    have hr : (rdOf ByteArray.empty [(⟨#[]⟩ : ByteArray), (⟨#[65]⟩ : ByteArray), (⟨#[45]⟩ : ByteArray), (⟨#[0]⟩ : ByteArray), (⟨#[122, 122]⟩ : ByteArray), (⟨#[123]⟩ : ByteArray)] (x : Int)).size ≤ 2 := by
      have : x = 0 ∨ x = 1 ∨ x = 2 ∨ x = 3 ∨ x = 4 ∨ x = 5 := by omega
      rcases this with rfl | rfl | rfl | rfl | rfl | rfl <;> decide
    generalize rdOf ByteArray.empty [(⟨#[]⟩ : ByteArray), (⟨#[65]⟩ : ByteArray), (⟨#[45]⟩ : ByteArray), (⟨#[0]⟩ : ByteArray), (⟨#[122, 122]⟩ : ByteArray), (⟨#[123]⟩ : ByteArray)] (x : Int) = y at *
    have hx0 := ex0 w u.toNat
    have hx1 := ex1 w u.toNat
    rw [if_pos (by omega), if_pos (by rw [ByteArray.size_append]; omega)]
    exact ⟨_, _, _, rfl, by rw [ByteArray.size_append, ByteArray.size_append]; omega, c4.le (by omega)⟩
  · rw [if_neg h0]
    by_cases h1 : v = 1
    · rw [if_pos h1]
      exact ⟨_, _, _, rfl, by decide, c2.le (by omega)⟩
    · rw [if_neg h1]
      by_cases h2 : v = 2
      · rw [if_pos h2, if_pos (by omega)]
        obtain ⟨u, p3, s3, e3, u0, u1, c3⟩ := pick_f L hL 33 c2 (by omega) (by decide)
        rw [e3, Option.bind_some]
        dsimp only
        generalize hz : (⟨#[97, 97, 97, 97, 97, 97, 97, 97, 97, 97, 97, 97, 97, 97, 97, 97, 97, 97, 97, 97, 97, 97, 97, 97, 97, 97, 97, 97, 97, 97, 97, 97]⟩ : ByteArray) = z
        have hzs : z.size = 32 := by rw [← hz]; rfl
        have hx0 := ex0 z u.toNat
        rw [if_pos u0, if_pos (by omega), if_pos (by rw [ByteArray.size_append]; omega)]
        exact ⟨_, _, _, rfl, by rw [ByteArray.size_append, ByteArray.size_append]; omega, c3.le (by omega)⟩
      · rw [if_neg h2]
        exact ⟨_, _, _, rfl, by omega, c2.le (by omega)⟩

theorem raw_f (L : List Int) (hL : U8s L) {p s B : Int} (h : Cur p s B) (hB : B ≤ 900000000) : ∃ r p' s', spec_l01Cur_raw.f L p s = some (r, p', s') ∧ Cur p' s' (B + 2) := by
  obtain ⟨v1, p1, s1, e1, _, _, c1⟩ := pick_f L hL 8 h (by omega) (by decide)
  unfold spec_l01Cur_raw.f
  rw [e1, Option.bind_some]
  dsimp only
  by_cases h1 : v1 = 0
  · obtain ⟨v2, p2, s2, e2, _, _, c2⟩ := pick_f L hL 256 c1 (by omega) (by decide)
    rw [if_pos h1, e2, Option.bind_some]
    exact ⟨_, _, _, rfl, c2.le (by omega)⟩
  · rw [if_neg h1]
    by_cases h2 : v1 = 1
    · obtain ⟨v2, p2, s2, e2, v20, v21, c2⟩ := pick_f L hL 8 c1 (by omega) (by decide)
      rw [if_pos h2, Option.bind_some, e2, Option.bind_some, if_pos v20, if_pos (by simp only [List.length_cons, List.length_nil]; omega)]
      exact ⟨_, _, _, rfl, c2.le (by omega)⟩
    · obtain ⟨v2, p2, s2, e2, _, _, c2⟩ := pick_f L hL 14 c1 (by omega) (by decide)
      rw [if_neg h2, e2, Option.bind_some]
      exact ⟨_, _, _, rfl, c2.le (by omega)⟩

theorem text_l0 (L : List Int) (hL : U8s L) (d : Nat) : ∀ (k : Nat) (x : ByteArray) (n p s B : Int), n ≤ (d : Int) → d + 50 < k → x.size + 100 * d ≤ 100000 → d ≤ 100 → Cur p s B → B + 100 * (d : Int) ≤ 1000000 →
    ∃ t p' s', spec_l01Cur_text.l0 k x n L p s = some (t, p', s') ∧ t.size ≤ x.size + 100 * d ∧ Cur p' s' (B + 100 * d) := by
  induction d with
  | zero =>
    intro k x n p s B hn hk hx _ hc hB
    obtain ⟨k, rfl⟩ : ∃ q, k = q + 1 := ⟨k - 1, by omega⟩
    exact ⟨x, p, s, by rw [spec_l01Cur_text.l0, if_neg (by omega)], by omega, hc.le (by omega)⟩
  | succ d ih =>
    intro k x n p s B hn hk hx hd hc hB
    obtain ⟨k, rfl⟩ : ∃ q, k = q + 1 := ⟨k - 1, by omega⟩
    by_cases h : n > 0
    · obtain ⟨w, p1, s1, e1, hw, c1⟩ := badWord_f L hL hc (by omega) (show 40 < k by omega)
      obtain ⟨v, p2, s2, e2, v0, v1, c2⟩ := pick_f L hL 5 c1 (by omega) (by decide)
      obtain ⟨v, rfl⟩ := Int.eq_ofNat_of_zero_le v0
      rw [spec_l01Cur_text.l0, if_pos h, e1, Option.bind_some]
      dsimp only
      rw [if_pos (by omega), Option.bind_some, e2, Option.bind_some]
      dsimp only
      rw [if_pos v0, if_pos (by simp; omega)]
      have hr : (rdOf ByteArray.empty [(⟨#[32]⟩ : ByteArray), (⟨#[10]⟩ : ByteArray), (⟨#[32, 32]⟩ : ByteArray), (⟨#[9, 32, 13]⟩ : ByteArray), (⟨#[32]⟩ : ByteArray)] (v : Int)).size ≤ 3 := by
        have : v = 0 ∨ v = 1 ∨ v = 2 ∨ v = 3 ∨ v = 4 := by omega
        rcases this with rfl | rfl | rfl | rfl | rfl <;> decide
      generalize rdOf ByteArray.empty [(⟨#[32]⟩ : ByteArray), (⟨#[10]⟩ : ByteArray), (⟨#[32, 32]⟩ : ByteArray), (⟨#[9, 32, 13]⟩ : ByteArray), (⟨#[32]⟩ : ByteArray)] (v : Int) = y at *
      have hxs : ((x ++ w) ++ y).size = x.size + w.size + y.size := by rw [ByteArray.size_append, ByteArray.size_append]
      obtain ⟨t, p3, s3, e3, ht, c3⟩ := ih k ((x ++ w) ++ y) (n - 1) p2 s2 (B + 73 + 1) (by omega) (by omega) (by omega) (by omega) c2 (by omega)
      rw [if_pos (by rw [ByteArray.size_append]; omega), w64 (by omega) (by omega)]
      exact ⟨t, p3, s3, e3, by omega, c3.le (by omega)⟩
    · exact ⟨x, p, s, by rw [spec_l01Cur_text.l0, if_neg h], by omega, hc.le (by omega)⟩
theorem drawTokens_f (L : List Int) (hL : U8s L) (hlen : L.length ≤ 1048576) {k : Nat} (hk : 200 < k) : ∃ t n, spec_DrawTokens.f k L = some (t, n) := by
  unfold spec_DrawTokens.f spec_l01Open.f
  rw [Option.bind_some]
  dsimp only
  have c0 : Cur 0 (59 + ((L.length : Int) % 1000)) 0 := ⟨by omega, by omega, by omega, by omega⟩
  obtain ⟨v1, p1, s1, e1, v10, v11, c1⟩ := pick_f L hL 16 c0 (by omega) (by decide)
  rw [e1, Option.bind_some]
  dsimp only
  rw [w64 (n := 1 + v1) (by omega) (by omega)]
  obtain ⟨v2, p2, s2, e2, v20, v21, c2⟩ := pick_f L hL (1 + v1 + 1) c1 (by omega) (by omega)
  obtain ⟨t, p3, s3, e3, ht, c3⟩ := text_l0 L hL 17 k ⟨#[]⟩ v2 p2 s2 (0 + 1 + 1) (by omega) (by omega) (by decide) (by decide) c2 (by omega)
  have ht2 : t.size ≤ 1700 := by
    have : (⟨#[]⟩ : ByteArray).size = 0 := rfl
    omega
  have e4 : spec_l01Cur_text.f k L p1 s1 (1 + v1) = some (t, p3, s3) := by
    unfold spec_l01Cur_text.f
    rw [w64 (n := 1 + v1 + 1) (by omega) (by omega), e2, Option.bind_some]
    exact e3
  rw [e4, Option.bind_some]
  dsimp only
  obtain ⟨v5, p5, s5, e5, v50, v51, c5⟩ := pick_f L hL 9 c3 (by omega) (by decide)
  rw [e5, Option.bind_some]
  dsimp only
  by_cases h0 : v5 = 0
  · obtain ⟨r, p6, s6, e6, c6⟩ := raw_f L hL c5 (by omega)
    obtain ⟨v7, p7, s7, e7, v70, v71, c7⟩ := pick_f L hL 3 c6 (by omega) (by decide)
    rw [if_pos h0, e6, Option.bind_some]
    dsimp only
    rw [Option.bind_some, e7, Option.bind_some]
    dsimp only
    rw [if_pos v70, if_pos (by simp only [List.length_cons, List.length_nil]; omega)]
    exact ⟨_, _, rfl⟩
  · rw [if_neg h0]
    by_cases h1 : v5 = 1
    · obtain ⟨v6, p6, s6, e6, v60, v61, c6⟩ := pick_f L hL 2 c5 (by omega) (by decide)
      have hm : mn 2000 (t.size : Int) = (t.size : Int) := by unfold mn; split <;> omega
      rw [if_pos h1, e6, Option.bind_some]
      dsimp only
      rw [hm, w64 (by omega) (by omega), if_pos (by omega), if_pos (by omega), Option.bind_some, if_pos (by rw [strOfNums_size, List.length_replicate]; omega)]
      exact ⟨_, _, rfl⟩
    · rw [if_neg h1]
      by_cases h2 : v5 = 2
      · rw [if_pos h2, if_pos (by omega)]
        exact ⟨_, _, rfl⟩
      · rw [if_neg h2]
        exact ⟨_, _, rfl⟩

theorem bytes_word {w : ByteArray} (h : wordB w = true) : ∀ b ∈ w.data.toList, 97 ≤ b.toNat ∧ b.toNat ≤ 122 := by
  intro b hb
  obtain ⟨j, hj, rfl⟩ := List.getElem_of_mem hb
  unfold wordB okB at h
  rw [Bool.and_eq_true] at h
  have h2 := of_decide_eq_true h.2 j (by rw [size_list]; exact hj) (Nat.zero_le _)
  rw [bt_list w j hj] at h2
  omega
theorem lowS_word {w : ByteArray} (h : wordB w = true) : lowS w = w := by
  have hb := bytes_word h
  have e : w.data.toList.map lowB = w.data.toList := by
    have : w.data.toList.map lowB = w.data.toList.map id := List.map_congr_left (fun b hm => by
      have := hb b hm
      unfold lowB
      rw [if_neg (by omega)]
      rfl)
    rw [this, List.map_id]
  unfold lowS
  rw [e]
/-- what a token becomes: 1 to 32 bytes, no gap among them; it stays as it is -/
structure GoodW (w : ByteArray) : Prop where
  ne : w ≠ ⟨#[]⟩
  le : w.size ≤ 32
  ng : ∀ b ∈ w.data.toList, gapB b = false
  idem : word w = w
theorem word_q : word ⟨#[63]⟩ = ⟨#[63]⟩ := by
  have e : lowS ⟨#[63]⟩ = ⟨#[63]⟩ := by
    unfold lowS
    rfl
  have h : wordB ⟨#[63]⟩ = false := by
    unfold wordB okB
    rw [Bool.and_eq_false_iff]
    right
    rw [decide_eq_false_iff_not]
    intro hc
    have := hc 0 (by decide) (Nat.zero_le _)
    have hb : bt ⟨#[63]⟩ ((0 : Nat) : Int) = 63 := rfl
    rw [hb] at this
    omega
  have hf : foldS ⟨#[63]⟩ = ⟨#[]⟩ := by
    unfold foldS
    rw [e, h]
    simp
  unfold word
  rw [if_pos hf]
theorem word_good (x : ByteArray) : GoodW (word x) := by
  by_cases h : foldS x = ⟨#[]⟩
  · have e : word x = ⟨#[63]⟩ := by unfold word; rw [if_pos h]
    rw [e]
    refine ⟨fun he => ?_, by decide, fun b hb => ?_, word_q⟩
    · have := congrArg ByteArray.size he
      exact absurd this (by decide)
    · have : b = 63 := by simpa using hb
      subst this
      rfl
  · have e : word x = foldS x := by unfold word; rw [if_neg h]
    have hs : x.size ≤ 32 := by
      by_cases h2 : x.size ≤ 32
      · exact h2
      · exact absurd (by unfold foldS; rw [if_neg h2]) h
    have hw : wordB (lowS x) = true := by
      cases h2 : wordB (lowS x) with
      | true => rfl
      | false => exact absurd (by unfold foldS; rw [if_pos hs, h2]; simp) h
    have hf : foldS x = lowS x := by unfold foldS; rw [if_pos hs, if_pos hw]
    have hz := lowS_size x
    have hff : foldS (lowS x) = lowS x := by
      unfold foldS
      rw [lowS_word hw, if_pos (by omega), if_pos hw]
    rw [hf] at h
    rw [e, hf]
    refine ⟨h, by omega, fun b hb => ?_, by unfold word; rw [hff, if_neg h]⟩
    have := bytes_word hw b hb
    unfold gapB gapN
    simp
    omega
/-- the tokens, each behind a space -/
def joinS (ws : List ByteArray) : List UInt8 := ws.flatMap fun w => 32 :: w.data.toList
theorem joinS_snoc (ws : List ByteArray) (w : ByteArray) : joinS (ws ++ [w]) = joinS ws ++ 32 :: w.data.toList := by simp [joinS]
theorem joinS_length (ws : List ByteArray) (h : ∀ w ∈ ws, GoodW w) : (joinS ws).length ≤ 33 * ws.length := by
  induction ws with
  | nil => simp [joinS]
  | cons w ws ih =>
    have h1 := ih (fun x hx => h x (List.mem_cons_of_mem _ hx))
    have h2 := (h w List.mem_cons_self).le
    rw [size_list] at h2
    simp only [joinS, List.flatMap_cons, List.length_append, List.length_cons] at h1 ⊢
    omega
theorem good_list_ne {w : ByteArray} (h : GoodW w) : w.data.toList ≠ [] := fun e => h.ne (mkB_of w [] e)
theorem fl_join (ws : List ByteArray) (h : ∀ w ∈ ws, GoodW w) : fl [] (joinS ws) = ws.map fun w => w.data.toList := by
  have gap32 : gapB 32 = true := rfl
  have hn32 : ng 32 = false := rfl
  induction ws with
  | nil => rfl
  | cons w ws ih =>
    have hw := h w List.mem_cons_self
    have hne := good_list_ne hw
    have ih := ih (fun x hx => h x (List.mem_cons_of_mem _ hx))
    have e : joinS (w :: ws) = 32 :: (w.data.toList ++ joinS ws) := by simp [joinS]
    have hj : (joinS ws).takeWhile ng = [] ∧ (joinS ws).dropWhile ng = joinS ws := by
      cases ws with
      | nil => exact ⟨rfl, rfl⟩
      | cons y ys =>
        have e2 : joinS (y :: ys) = 32 :: (y.data.toList ++ joinS ys) := by simp [joinS]
        rw [e2]
        exact ⟨List.takeWhile_cons_of_neg (by rw [hn32]; decide), List.dropWhile_cons_of_neg (by rw [hn32]; decide)⟩
    rw [e, fl_gap gap32, fl_skip _ _ _ hw.ng, List.nil_append, fl_cur _ _ hne, hj.1, hj.2, ih, List.append_nil, List.map_cons]
theorem toks_join (ws : List ByteArray) (h : ∀ w ∈ ws, GoodW w) : toks (mkB (joinS ws)) = ws := by
  unfold toks
  rw [mkB_list, fl_join ws h, List.map_map]
  have : ws.map (mkB ∘ fun w => w.data.toList) = ws.map id := List.map_congr_left (fun w _ => (mkB_of w _ rfl).symm)
  rw [this, List.map_id]
theorem same_l0 (xs : List ByteArray) (hx : xs.length ≤ 500) (d : Nat) : ∀ (k i : Nat), i + d = xs.length → d < k → laws_sameWords.l0 k xs xs (i : Int) = some true := by
  induction d with
  | zero =>
    intro k i hi hk
    obtain ⟨k, rfl⟩ : ∃ q, k = q + 1 := ⟨k - 1, by omega⟩
    rw [laws_sameWords.l0, if_neg (by omega)]
  | succ d ih =>
    intro k i hi hk
    obtain ⟨k, rfl⟩ : ∃ q, k = q + 1 := ⟨k - 1, by omega⟩
    rw [laws_sameWords.l0, if_pos (by omega), if_pos (by omega), if_pos (by omega), if_pos rfl, w64 (by omega) (by omega)]
    exact ih k (i + 1) (by omega) (by omega)
theorem same_f (xs : List ByteArray) (hx : xs.length ≤ 500) {k : Nat} (hk : 600 < k) : laws_sameWords.f k xs xs = some true := by
  unfold laws_sameWords.f
  rw [if_pos rfl]
  exact same_l0 xs hx xs.length k 0 (by omega) (by omega)
/-- the loop that joins the tokens -/
theorem join_l0 (n : Int) (ws : List ByteArray) (m : Nat) (hg : ∀ w ∈ ws, GoodW w) (hlen : ws.length + m ≤ 16) (hfin : ∀ k, 2000 < k → impl_Tokens.f k (mkB (joinS ws)) n = some (ws ++ List.replicate m ⟨#[]⟩, true)) (d : Nat) :
    ∀ (k i : Nat), i + d = ws.length + m → d + 2001 < k → laws_FnTokens.l0 k n (ws ++ List.replicate m ⟨#[]⟩) (ws ++ List.replicate m ⟨#[]⟩) (mkB (joinS (ws.take i))) (i : Int) = some true := by
  have hL : (ws ++ List.replicate m (⟨#[]⟩ : ByteArray)).length = ws.length + m := by simp
  induction d with
  | zero =>
    intro k i hi hk
    obtain ⟨k, rfl⟩ : ∃ q, k = q + 1 := ⟨k - 1, by omega⟩
    rw [laws_FnTokens.l0, if_neg (by omega), List.take_of_length_le (by omega), hfin k (by omega), Option.bind_some]
    dsimp only
    rw [if_pos rfl, same_f _ (by omega) (by omega), Option.bind_some, if_pos rfl, Option.bind_some]
  | succ d ih =>
    intro k i hi hk
    obtain ⟨k, rfl⟩ : ∃ q, k = q + 1 := ⟨k - 1, by omega⟩
    have hr := rdOf_lt (show i < (ws ++ List.replicate m (⟨#[]⟩ : ByteArray)).length by omega)
    have ih := ih k (i + 1) (by omega) (by omega)
    rw [laws_FnTokens.l0, if_pos (by omega), if_pos (by omega), hr, w64 (by omega) (by omega)]
    by_cases h : i < ws.length
    · have hget : (ws ++ List.replicate m (⟨#[]⟩ : ByteArray))[i]'(by omega) = ws[i] := List.getElem_append_left h
      have hw := hg _ (List.getElem_mem h)
      have hz : (mkB (joinS (ws.take i))).size ≤ 33 * 16 := by
        have h1 := joinS_length (ws.take i) (fun w hw => hg w (List.mem_of_mem_take hw))
        rw [size_list, mkB_list]
        rw [List.length_take] at h1
        omega
      have hs := hw.le
      have e32 : (⟨#[32]⟩ : ByteArray).size = 1 := rfl
      have ej : (mkB (joinS (ws.take i)) ++ (⟨#[32]⟩ : ByteArray)) ++ ws[i] = mkB (joinS (ws.take (i + 1))) := by
        apply mkB_of
        rw [List.take_succ_eq_append_getElem h, joinS_snoc]
        simp [ByteArray.data_append, mkB]
      rw [hget, if_neg (fun e => hw.ne ((toList_nil _).1 e)), if_pos (by omega), if_pos (by rw [ByteArray.size_append, e32]; omega), ej]
      exact ih
    · have hget : (ws ++ List.replicate m (⟨#[]⟩ : ByteArray))[i]'(by omega) = ⟨#[]⟩ := by
        rw [List.getElem_append_right (by omega), List.getElem_replicate]
      rw [List.take_of_length_le (by omega)] at ih
      rw [hget, if_pos ((toList_nil _).2 rfl), List.take_of_length_le (by omega)]
      exact ih
theorem FnTokens : laws_FnTokens.Pure := by
  intro L _ hlen hL
  have hU := U8s.of hL
  obtain ⟨K, hK⟩ : ∃ K : Nat, 4200402 < K := ⟨4200403, Nat.lt_succ_self _⟩
  obtain ⟨K, rfl⟩ : ∃ q, K = q + 1 := ⟨K - 1, by omega⟩
  refine ⟨K + 1, ?_⟩
  unfold laws_FnTokens.f laws_big.f
  rw [Option.bind_some]
  by_cases hbig : (L.length : Int) > 1048576
  · rw [if_pos (decide_eq_true hbig)]
  · rw [if_neg (by simpa using hbig)]
    obtain ⟨t, n, e⟩ := drawTokens_f L hU (by omega) (show 200 < K + 1 by omega)
    rw [e, Option.bind_some]
    dsimp only
    rw [spec_Tokens_f t n (by omega), Option.bind_some, impl_Tokens_f t n (by omega), Option.bind_some, if_neg (by simp)]
    by_cases h : t.size ≤ 2000 ∧ 1 ≤ n ∧ n ≤ 16
    · by_cases h2 : ((toks t).map word).length ≤ n.toNat
      · have ht : tk t n = ((toks t).map word ++ List.replicate (n.toNat - ((toks t).map word).length) ⟨#[]⟩, true) := by
          unfold tk tkR
          rw [if_pos h, if_pos h2]
        have hg : ∀ w ∈ (toks t).map word, GoodW w := fun w hw => by
          obtain ⟨x, _, rfl⟩ := List.mem_map.1 hw
          exact word_good x
        have hfin : ∀ k, 2000 < k → impl_Tokens.f k (mkB (joinS ((toks t).map word))) n = some ((toks t).map word ++ List.replicate (n.toNat - ((toks t).map word).length) ⟨#[]⟩, true) := by
          intro k hk
          have hz : (mkB (joinS ((toks t).map word))).size ≤ 2000 := by
            have h1 := joinS_length _ hg
            rw [size_list, mkB_list]
            omega
          have hid : ((toks t).map word).map word = (toks t).map word := by
            have : ((toks t).map word).map word = ((toks t).map word).map id := List.map_congr_left (fun w hw => (hg w hw).idem)
            rw [this, List.map_id]
          rw [impl_Tokens_f _ n (by omega)]
          unfold tk tkR
          rw [if_pos ⟨hz, h.2⟩, toks_join _ hg, hid, if_pos h2]
        rw [ht]
        dsimp only
        rw [laws_FnTokens.j0, if_neg (by decide)]
        generalize (toks t).map word = ws at *
        have := join_l0 n ws (n.toNat - ws.length) hg (by omega) hfin (ws.length + (n.toNat - ws.length)) K 0 (by omega) (by omega)
        rw [List.take_zero] at this
        exact this
      · have ht : tk t n = ([], false) := by unfold tk tkR; rw [if_pos h, if_neg h2]
        rw [ht, laws_FnTokens.j0]
        rfl
    · have ht : tk t n = ([], false) := by unfold tk; rw [if_neg h]
      rw [ht, laws_FnTokens.j0]
      rfl

end Go.Proofs.YthmbgcpmfmlifaaDoor.Pure
