/- The law FnExactTokens holds of the program: whatever its arguments (of the kinds and sizes that the statement names), it answers true. -/
import Derived.Test.YthmbgcpmfmlifaaDoorQFnExactTokensx4
import Derived.Test.YthmbgcpmfmlifaaDoorLib
import Derived.Test.YthmbgcpmfmlifaaDoorLibFold
import Derived.Test.YthmbgcpmfmlifaaDoorLibTok
set_option linter.unusedVariables false
set_option linter.unusedSimpArgs false
namespace Go.Proofs.YthmbgcpmfmlifaaDoor.Pure
open Go.RowKit Go.Proofs.YthmbgcpmfmlifaaDoor.PFnExactTokens Go.Proofs.YthmbgcpmfmlifaaDoorW.PrintWords Go.Proofs.YthmbgcpmfmlifaaDoorW.PrintLast Go.Proofs.YthmbgcpmfmlifaaDoor.L 

/-- bytes as numbers -/
def nB (l : List UInt8) : List Int := l.map fun b => (b.toNat : Int)
theorem nB_append (a b : List UInt8) : nB (a ++ b) = nB a ++ nB b := by simp [nB]
theorem nB_length (a : List UInt8) : (nB a).length = a.length := by simp [nB]
theorem bytesOf_nB (s : ByteArray) : bytesOf s = nB s.data.toList := rfl
theorem strOf_nB (l : List UInt8) : strOfNums (nB l) = ⟨l.toArray⟩ := by
  have h : (strOfNums (nB l)).data = l.toArray := by
    unfold strOfNums nB
    simp [Function.comp_def]
  cases hs : strOfNums (nB l) with
  | mk d => rw [hs] at h; rw [← h]

theorem spec_WordOk_l0 (s : ByteArray) (hs : s.size ≤ 140737488351232) (d : Nat) : ∀ (k i : Nat), i ≤ s.size → s.size - i = d → d < k →
    spec_WordOk.l0 k s (i : Int) = some (okB s i) := by
  induction d with
  | zero =>
    intro k i hi hd hk
    obtain ⟨k, rfl⟩ : ∃ q, k = q + 1 := ⟨k - 1, by omega⟩
    rw [spec_WordOk.l0, if_neg (by omega), okB_end (by omega)]
  | succ d ih =>
    intro k i hi hd hk
    obtain ⟨k, rfl⟩ : ∃ q, k = q + 1 := ⟨k - 1, by omega⟩
    have h := ih k (i + 1) (by omega) (by omega) (by omega)
    rw [spec_WordOk.l0, if_pos (by omega), if_pos (by omega)]
    by_cases h1 : bt s (i : Int) < 97
    · rw [if_pos h1, okB_bad (by omega) (.inl h1)]
    · rw [if_neg h1]
      by_cases h2 : bt s (i : Int) > 122
      · rw [if_pos h2, okB_bad (by omega) (.inr h2)]
      · rw [if_neg h2, w64 (by omega) (by omega), okB_step (by omega) (by omega)]
        exact h
theorem spec_WordOk_f (s : ByteArray) (hs : s.size ≤ 140737488351232) {k : Nat} (hk : s.size + 1 < k) : spec_WordOk.f k s = some (wordB s) := by
  obtain ⟨k, rfl⟩ : ∃ q, k = q + 1 := ⟨k - 1, by omega⟩
  unfold spec_WordOk.f wordB
  by_cases h : (s.size : Int) < 1
  · rw [if_pos h, spec_WordOk.j0, if_pos rfl, decide_eq_false (by omega)]; rfl
  · rw [if_neg h, spec_WordOk.j0]
    by_cases h2 : (s.size : Int) > 32
    · rw [if_pos (by simp only [decide_eq_true_eq]; exact h2), decide_eq_false (by omega)]; rfl
    · rw [if_neg (by simp only [decide_eq_true_eq]; exact h2), decide_eq_true (by omega), Bool.true_and]
      exact spec_WordOk_l0 s hs s.size k 0 (by omega) (by omega) (by omega)

theorem within_f (a b c : Int) : impl_within.f a b c = some (decide (b ≤ a ∧ a ≤ c)) := by
  unfold impl_within.f
  by_cases h : a ≥ b
  · rw [if_pos h]; congr 1; rw [decide_eq_decide]; omega
  · rw [if_neg h]; congr 1; symm; rw [decide_eq_false_iff_not]; omega

theorem impl_isWord_l0 (s : ByteArray) (hs : s.size ≤ 140737488351232) (d : Nat) : ∀ (k i : Nat), i ≤ s.size → s.size - i = d → d < k →
    impl_isWord.l0 k s (s.size : Int) (i : Int) = some (okB s i && decide (1 ≤ s.size ∧ s.size ≤ 32)) := by
  induction d with
  | zero =>
    intro k i hi hd hk
    obtain ⟨k, rfl⟩ : ∃ q, k = q + 1 := ⟨k - 1, by omega⟩
    rw [impl_isWord.l0, if_neg (by omega), okB_end (by omega), within_f, Bool.true_and]
    simp only [Option.bind_some]
    congr 1
    rw [decide_eq_decide]; omega
  | succ d ih =>
    intro k i hi hd hk
    obtain ⟨k, rfl⟩ : ∃ q, k = q + 1 := ⟨k - 1, by omega⟩
    have h := ih k (i + 1) (by omega) (by omega) (by omega)
    rw [impl_isWord.l0, if_pos (by omega), if_pos (by omega), if_pos (by omega)]
    by_cases h1 : bt s (i : Int) < 97
    · rw [if_pos h1, okB_bad (by omega) (.inl h1)]; rfl
    · rw [if_neg h1]
      by_cases h2 : bt s (i : Int) > 122
      · rw [if_pos h2, okB_bad (by omega) (.inr h2)]; rfl
      · rw [if_neg h2, w64 (by omega) (by omega), okB_step (by omega) (by omega)]
        exact h
theorem impl_isWord_f (s : ByteArray) (hs : s.size ≤ 140737488351232) {k : Nat} (hk : s.size < k) : impl_isWord.f k s = some (wordB s) := by
  unfold impl_isWord.f wordB
  rw [Bool.and_comm]
  exact impl_isWord_l0 s hs s.size k 0 (by omega) (by omega) (by omega)

theorem spec_Fold_l0 (s : ByteArray) (hs : s.size ≤ 32) (d : Nat) : ∀ (k i : Nat), i + d = s.size → d + 60 < k → spec_Fold.l0 k s (nB ((s.data.toList.map lowB).take i)) (i : Int) = some (if wordB (lowS s) = true then lowS s else ⟨#[]⟩) := by
  induction d with
  | zero =>
    intro k i hi hk
    obtain ⟨k, rfl⟩ : ∃ q, k = q + 1 := ⟨k - 1, by omega⟩
    have hl := size_list s
    rw [spec_Fold.l0, if_neg (by omega), List.take_of_length_le (by rw [List.length_map]; omega), strOf_nB]
    have e : (⟨(s.data.toList.map lowB).toArray⟩ : ByteArray) = lowS s := rfl
    have hz := lowS_size s
    rw [e, spec_WordOk_f (lowS s) (by omega) (by omega), Option.bind_some]
    split <;> rfl
  | succ d ih =>
    intro k i hi hk
    obtain ⟨k, rfl⟩ : ∃ q, k = q + 1 := ⟨k - 1, by omega⟩
    have hl := size_list s
    have hli : i < s.data.toList.length := by omega
    have hb := bt_list s i hli
    have hn := lowB_nat (s.data.toList[i])
    have hlt : (nB ((s.data.toList.map lowB).take i)).length < 140737488355328 := by rw [nB_length, List.length_take]; omega
    have step : ∀ z : Int, z = ((lowB (s.data.toList[i])).toNat : Int) → spec_Fold.l0 k s (nB ((s.data.toList.map lowB).take i) ++ [z]) (wrap64 ((i : Int) + 1)) = some (if wordB (lowS s) = true then lowS s else ⟨#[]⟩) := by
      intro z hz
      rw [w64 (by omega) (by omega), ← ih k (i + 1) (by omega) (by omega), List.take_succ_eq_append_getElem (l := s.data.toList.map lowB) (by rw [List.length_map]; exact hli), List.getElem_map, nB_append, hz]
      rfl
    clear ih
    rw [spec_Fold.l0, if_pos (by omega), if_pos (by omega), hb]
    have hlt2 := (s.data.toList[i]).toNat_lt
    by_cases h1 : ((s.data.toList[i]).toNat : Int) ≥ 65
    · rw [if_pos h1]
      by_cases h2 : ((s.data.toList[i]).toNat : Int) ≤ 90
      · rw [if_pos h2, if_pos hlt]
        exact step _ (by rw [hn, if_pos ⟨h1, h2⟩]; omega)
      · rw [if_neg h2, if_pos hlt]
        exact step _ (by rw [hn, if_neg (by omega)])
    · rw [if_neg h1, if_pos hlt]
      exact step _ (by rw [hn, if_neg (by omega)])
theorem spec_Fold_f (s : ByteArray) {k : Nat} (hk : 200 < k) : spec_Fold.f k s = some (foldS s) := by
  unfold spec_Fold.f foldS
  by_cases h : s.size ≤ 32
  · rw [if_neg (by omega), if_pos h]
    exact spec_Fold_l0 s h s.size k 0 (by omega) (by omega)
  · rw [if_pos (by omega), if_neg h]
theorem impl_Fold_f (s : ByteArray) (hs : s.size < 35184372088832) {k : Nat} (hk : 200 < k) : impl_Fold.f k s = some (foldS s) := by
  have hm := mapD_len lowR s.data.toList
  have hl := size_list s
  have e : strings_Map.f s = some ⟨(Lib.mapD lowR s.data.toList).toArray⟩ := by unfold strings_Map.f; rw [if_pos hs]; rfl
  unfold impl_Fold.f foldS
  rw [e, Option.bind_some]
  by_cases h : s.size ≤ 32
  · have hz : (⟨(Lib.mapD lowR s.data.toList).toArray⟩ : ByteArray).size = (Lib.mapD lowR s.data.toList).length := by simp [ByteArray.size]
    rw [if_neg (by omega), if_pos h, impl_isWord_f _ (by omega) (by omega), Option.bind_some, ← fold_runes s]
    split <;> rfl
  · rw [if_pos (by omega), if_neg h]

theorem gap_f (b : UInt8) : spec_l01Gap.f (b.toNat : Int) = some (gapB b) := by
  unfold spec_l01Gap.f
  by_cases h1 : (b.toNat : Int) = 9
  · rw [if_pos h1]; congr 1; unfold gapB gapN; simp; omega
  · rw [if_neg h1]
    by_cases h2 : (b.toNat : Int) = 10
    · rw [if_pos h2]; congr 1; unfold gapB gapN; simp; omega
    · rw [if_neg h2]
      by_cases h3 : (b.toNat : Int) = 13
      · rw [if_pos h3]; congr 1; unfold gapB gapN; simp; omega
      · rw [if_neg h3]; congr 1; unfold gapB gapN
        rw [Bool.eq_iff_iff]
        simp
        omega
theorem rdOf_lt {xs : List ByteArray} {i : Nat} (h : i < xs.length) : rdOf ByteArray.empty xs (i : Int) = xs[i] := by
  unfold rdOf
  rw [Int.toNat_natCast, List.getD_eq_getElem?_getD]
  simp [h]
theorem tok_l1 (s : ByteArray) (hs : s.size ≤ 2000) (n : Int) (out : List ByteArray) (i : Int) (d : Nat) : ∀ (k j : Nat), j + d = s.size → d < k →
    ∃ k', k ≤ k' + d + 1 ∧ spec_Tokens.l1 k s n out i (j : Int) = spec_Tokens.j4 k' s n out i ((j + ((s.data.toList.drop j).takeWhile ng).length : Nat) : Int) := by
  induction d with
  | zero =>
    intro k j hj hk
    obtain ⟨k, rfl⟩ : ∃ q, k = q + 1 := ⟨k - 1, by omega⟩
    refine ⟨k, by omega, ?_⟩
    rw [spec_Tokens.l1, if_neg (by omega), List.drop_eq_nil_of_le (by rw [← size_list]; omega)]
    rfl
  | succ d ih =>
    intro k j hj hk
    obtain ⟨k, rfl⟩ : ∃ q, k = q + 1 := ⟨k - 1, by omega⟩
    have hl := size_list s
    have hlj : j < s.data.toList.length := by omega
    have hd := List.drop_eq_getElem_cons hlj
    cases hg : gapB (s.data.toList[j]) with
    | true =>
      have hn : ng (s.data.toList[j]) = false := by unfold ng; rw [hg]; rfl
      refine ⟨k, by omega, ?_⟩
      rw [spec_Tokens.l1, if_pos (by omega), if_pos (by omega), bt_list s j hlj, gap_f, hg, Option.bind_some, if_pos rfl, hd, List.takeWhile_cons_of_neg (by rw [hn]; decide)]
      rfl
    | false =>
      have hn : ng (s.data.toList[j]) = true := by unfold ng; rw [hg]; rfl
      obtain ⟨k', hk', e⟩ := ih k (j + 1) (by omega) (by omega)
      refine ⟨k', by omega, ?_⟩
      rw [spec_Tokens.l1, if_pos (by omega), if_pos (by omega), bt_list s j hlj, gap_f, hg, Option.bind_some, if_neg (by decide), w64 (by omega) (by omega), show ((j : Int) + 1) = ((j + 1 : Nat) : Int) from rfl, e, hd, List.takeWhile_cons_of_pos hn, List.length_cons]
      congr 2
      omega
theorem tok_l2 (n : Nat) (hn : n ≤ 16) (m : Nat) : ∀ (k : Nat) (out : List ByteArray), out.length + m = n → m < k → spec_Tokens.l2 k (n : Int) out = some (out ++ List.replicate m ⟨#[]⟩, true) := by
  induction m with
  | zero =>
    intro k out ho hk
    obtain ⟨k, rfl⟩ : ∃ q, k = q + 1 := ⟨k - 1, by omega⟩
    rw [spec_Tokens.l2, if_neg (by omega)]
    simp
  | succ m ih =>
    intro k out ho hk
    obtain ⟨k, rfl⟩ : ∃ q, k = q + 1 := ⟨k - 1, by omega⟩
    rw [spec_Tokens.l2, if_pos (by omega), if_pos (by omega), ih k _ (by simp; omega) (by omega), List.replicate_succ, List.append_assoc]
    rfl
/-- does a token that stands at i begin there -/
def pg (s : ByteArray) (i : Nat) : Bool := i == 0 || gapB (s.data.toList.getD (i - 1) 0)
/-- the tokens that begin from i on -/
def rest (s : ByteArray) (i : Nat) : List (List UInt8) := if pg s i = true then fl [] (s.data.toList.drop i) else fl [] ((s.data.toList.drop i).dropWhile ng)
theorem pg_next (s : ByteArray) (i : Nat) (h : i < s.data.toList.length) : pg s (i + 1) = gapB (s.data.toList[i]) := by
  unfold pg
  rw [List.getD_eq_getElem?_getD, Nat.add_sub_cancel, List.getElem?_eq_getElem h]
  simp
theorem rest_gap (s : ByteArray) (i : Nat) (h : i < s.data.toList.length) (hg : gapB (s.data.toList[i]) = true) : rest s i = rest s (i + 1) := by
  unfold rest
  rw [pg_next s i h, hg, if_pos rfl, List.drop_eq_getElem_cons h]
  split
  · rw [fl_gap hg]
  · rw [fl_rest_gap hg]
theorem rest_in (s : ByteArray) (i : Nat) (h : i < s.data.toList.length) (hg : gapB (s.data.toList[i]) = false) (hp : pg s i = false) : rest s i = rest s (i + 1) := by
  unfold rest
  rw [pg_next s i h, hg, hp, if_neg (by decide), if_neg (by decide), List.drop_eq_getElem_cons h, fl_rest_ng hg]
theorem rest_start (s : ByteArray) (i : Nat) (h : i < s.data.toList.length) (hg : gapB (s.data.toList[i]) = false) (hp : pg s i = true) : rest s i = (s.data.toList.drop i).takeWhile ng :: rest s (i + 1) := by
  unfold rest
  rw [pg_next s i h, hg, hp, if_pos rfl, if_neg (by decide), List.drop_eq_getElem_cons h, fl_start hg]
theorem tok_l0 (s : ByteArray) (hs : s.size ≤ 2000) (n : Nat) (hn : n ≤ 16) (c : Nat) (hc : 2100 ≤ c) (d : Nat) : ∀ (k i : Nat) (out : List ByteArray), i + d = s.size → d * c + 300 < k → out.length ≤ n →
    spec_Tokens.l0 k s (n : Int) out (i : Int) = some (tkR n (out ++ ((rest s i).map mkB).map word)) := by
  induction d with
  | zero =>
    intro k i out hi hk ho
    obtain ⟨k, rfl⟩ : ∃ q, k = q + 1 := ⟨k - 1, by omega⟩
    have e : rest s i = [] := by
      unfold rest
      rw [List.drop_eq_nil_of_le (by rw [← size_list]; omega)]
      split <;> rfl
    rw [spec_Tokens.l0, if_neg (by omega), tok_l2 n hn (n - out.length) k out (by omega) (by omega), e]
    unfold tkR
    simp [ho]
  | succ d ih =>
    intro k i out hi hk ho
    rw [Nat.succ_mul] at hk
    obtain ⟨k, rfl⟩ : ∃ q, k = q + 1 + 1 := ⟨k - 2, by omega⟩
    have hl := size_list s
    have hli : i < s.data.toList.length := by omega
    have skip : rest s i = rest s (i + 1) → spec_Tokens.j2 (k + 1) s (n : Int) out (i : Int) true = some (tkR n (out ++ ((rest s i).map mkB).map word)) := by
      intro h
      rw [spec_Tokens.j2, if_pos rfl, w64 (by omega) (by omega), show ((i : Int) + 1) = ((i + 1 : Nat) : Int) from rfl, ih k (i + 1) out (by omega) (by omega) ho, h]
    have start : gapB (s.data.toList[i]) = false → pg s i = true → spec_Tokens.j2 (k + 1) s (n : Int) out (i : Int) false = some (tkR n (out ++ ((rest s i).map mkB).map word)) := by
      intro hg hp
      obtain ⟨k', hk', e⟩ := tok_l1 s hs (n : Int) out (i : Int) (d + 1) k i (by omega) (by omega)
      obtain ⟨k'', rfl⟩ : ∃ q, k' = q + 1 := ⟨k' - 1, by omega⟩
      rw [spec_Tokens.j2, if_neg (by decide), e, rest_start s i hli hg hp, spec_Tokens.j4]
      have htw := tw_len (s.data.toList.drop i)
      rw [List.length_drop] at htw
      by_cases hon : (out.length : Int) = (n : Int)
      · rw [if_pos hon]
        unfold tkR
        rw [if_neg (by simp; omega)]
      · have htake : (s.data.toList.drop i).take ((s.data.toList.drop i).takeWhile ng).length = (s.data.toList.drop i).takeWhile ng := by
          have h := List.takeWhile_append_dropWhile (p := ng) (l := s.data.toList.drop i)
          generalize List.takeWhile ng (List.drop i s.data.toList) = A at h ⊢
          rw [← h, List.take_left]
        rw [if_neg hon, if_pos (by omega), if_pos (by omega), if_pos (by omega), Int.toNat_natCast, Int.toNat_natCast, ext_mkB, Nat.add_sub_cancel_left, htake, spec_Fold_f _ (by omega), Option.bind_some, w64 (by omega) (by omega), show ((i : Int) + 1) = ((i + 1 : Nat) : Int) from rfl]
        have go : ∀ x : ByteArray, x = word (mkB ((s.data.toList.drop i).takeWhile ng)) → spec_Tokens.l0 k'' s (n : Int) (out ++ [x]) ((i + 1 : Nat) : Int) = some (tkR n (out ++ (((s.data.toList.drop i).takeWhile ng :: rest s (i + 1)).map mkB).map word)) := by
          intro x hx
          rw [ih k'' (i + 1) (out ++ [x]) (by omega) (by omega) (by simp; omega), hx]
          simp
        by_cases hw : foldS (mkB ((s.data.toList.drop i).takeWhile ng)) = ⟨#[]⟩
        · rw [if_pos ((toList_nil _).2 hw), if_pos (by omega)]
          exact go _ (by unfold word; rw [if_pos hw])
        · rw [if_neg (fun h => hw ((toList_nil _).1 h)), if_pos (by omega)]
          exact go _ (by unfold word; rw [if_neg hw])
    rw [spec_Tokens.l0, if_pos (by omega), if_pos (by omega), bt_list s i hli, gap_f, Option.bind_some]
    cases hg : gapB (s.data.toList[i]) with
    | true =>
      rw [if_pos rfl]
      exact skip (rest_gap s i hli hg)
    | false =>
      rw [if_neg (by decide)]
      by_cases h0 : i = 0
      · subst h0
        rw [if_neg (by omega)]
        exact start hg rfl
      · obtain ⟨i, rfl⟩ : ∃ q, i = q + 1 := ⟨i - 1, by omega⟩
        have hli' : i < s.data.toList.length := by omega
        have hp := pg_next s i hli'
        rw [if_pos (by omega), w64 (by omega) (by omega), show (((i + 1 : Nat) : Int) - 1) = (i : Int) from by omega, if_pos (by omega), if_pos (by omega), bt_list s i hli', gap_f, Option.bind_some]
        cases hg2 : gapB (s.data.toList[i]) with
        | true => exact start hg (by rw [hp, hg2])
        | false => exact skip (rest_in s (i + 1) hli hg (by rw [hp, hg2]))
theorem spec_Tokens_f (s : ByteArray) (n : Int) {k : Nat} (hk : 4200400 < k) : spec_Tokens.f k s n = some (tk s n) := by
  obtain ⟨k, rfl⟩ : ∃ q, k = q + 1 := ⟨k - 1, by omega⟩
  unfold spec_Tokens.f tk
  have no : ∀ (h : ¬ (s.size ≤ 2000 ∧ 1 ≤ n ∧ n ≤ 16)), spec_Tokens.j0 (k + 1) s n true = some (if s.size ≤ 2000 ∧ 1 ≤ n ∧ n ≤ 16 then tkR n.toNat ((toks s).map word) else ([], false)) := by
    intro h
    rw [spec_Tokens.j0, if_pos rfl, if_neg h]
  by_cases h1 : (s.size : Int) > 2000
  · rw [if_pos h1]; exact no (by omega)
  · rw [if_neg h1]
    by_cases h2 : n < 1
    · rw [if_pos h2]; exact no (by omega)
    · rw [if_neg h2]
      by_cases h3 : n > 16
      · rw [decide_eq_true h3]; exact no (by omega)
      · rw [decide_eq_false h3, spec_Tokens.j0, if_neg (by decide), if_pos (by omega)]
        obtain ⟨m, rfl⟩ := Int.eq_ofNat_of_zero_le (show 0 ≤ n by omega)
        have := tok_l0 s (by omega) m (by omega) 2100 (Nat.le_refl _) s.size k 0 [] (by omega) (by have := Nat.mul_le_mul_right 2100 (show s.size ≤ 2000 by omega); omega) (by simp)
        rw [show ((0 : Nat) : Int) = 0 from rfl] at this
        rw [this, Int.toNat_natCast]
        congr 1
theorem fl_mem (t : List UInt8) : ∀ (cur x : List UInt8), x ∈ fl cur t → x.length ≤ cur.length + t.length := by
  induction t with
  | nil =>
    intro cur x hx
    unfold fl at hx
    split at hx
    · cases hx
    · rw [List.mem_singleton.1 hx]; simp
  | cons b t ih =>
    intro cur x hx
    unfold fl at hx
    split at hx
    · rcases List.mem_append.1 hx with h | h
      · split at h
        · cases h
        · rw [List.mem_singleton.1 h]; simp
      · have := ih [] x h
        simp at this ⊢
        omega
    · have := ih _ x hx
      simp at this ⊢
      omega
theorem toks_size (s t : ByteArray) (h : t ∈ toks s) : t.size ≤ s.size := by
  obtain ⟨x, hx, rfl⟩ := List.mem_map.1 h
  have := fl_mem _ _ _ hx
  rw [size_list, size_list s, mkB_list]
  simpa using this
theorem impl_tok_l0 (ts : List ByteArray) (n : Nat) (hn : n ≤ 16) (htn : ts.length ≤ n) (hsz : ∀ t ∈ ts, t.size ≤ 1000000) (d : Nat) : ∀ (k i : Nat), i + d = ts.length → d + 300 < k →
    impl_Tokens.l0 k ((ts.map word).take i ++ List.replicate (n - i) ⟨#[]⟩) ts (ts.length : Int) (i : Int) = some ((ts.map word) ++ List.replicate (n - ts.length) ⟨#[]⟩, true) := by
  induction d with
  | zero =>
    intro k i hi hk
    obtain ⟨k, rfl⟩ : ∃ q, k = q + 1 := ⟨k - 1, by omega⟩
    obtain rfl : i = ts.length := by omega
    rw [impl_Tokens.l0, if_neg (by omega), List.take_of_length_le (by simp)]
  | succ d ih =>
    intro k i hi hk
    obtain ⟨k, rfl⟩ : ∃ q, k = q + 1 := ⟨k - 1, by omega⟩
    have hli : i < ts.length := by omega
    have hm : ts[i] ∈ ts := List.getElem_mem hli
    have hz := hsz _ hm
    have hlen : ((ts.map word).take i ++ List.replicate (n - i) (⟨#[]⟩ : ByteArray)).length = n := by simp; omega
    have hset : ∀ v : ByteArray, ((ts.map word).take i ++ List.replicate (n - i) (⟨#[]⟩ : ByteArray)).set i v = (ts.map word).take i ++ v :: List.replicate (n - (i + 1)) ⟨#[]⟩ := by
      intro v
      have hti : ((ts.map word).take i).length = i := by simp; omega
      rw [show n - i = (n - (i + 1)) + 1 from by omega, List.replicate_succ, List.set_append_right _ _ (by omega), hti, Nat.sub_self]
      rfl
    have hset2 : ∀ v u : ByteArray, ((ts.map word).take i ++ v :: List.replicate (n - (i + 1)) (⟨#[]⟩ : ByteArray)).set i u = (ts.map word).take i ++ u :: List.replicate (n - (i + 1)) ⟨#[]⟩ := by
      intro v u
      have hti : ((ts.map word).take i).length = i := by simp; omega
      rw [List.set_append_right _ _ (by omega), hti, Nat.sub_self]
      rfl
    have hrd : ∀ v : ByteArray, rdOf ByteArray.empty ((ts.map word).take i ++ v :: List.replicate (n - (i + 1)) (⟨#[]⟩ : ByteArray)) (i : Int) = v := by
      intro v
      have hti : ((ts.map word).take i).length = i := by simp; omega
      unfold rdOf
      rw [Int.toNat_natCast, List.getD_eq_getElem?_getD, List.getElem?_append_right (by omega), hti, Nat.sub_self]
      rfl
    have go : ∀ x : ByteArray, x = word ts[i] → impl_Tokens.l0 k ((ts.map word).take i ++ x :: List.replicate (n - (i + 1)) ⟨#[]⟩) ts (ts.length : Int) (wrap64 ((i : Int) + 1)) = some ((ts.map word) ++ List.replicate (n - ts.length) ⟨#[]⟩, true) := by
      intro x hx
      rw [w64 (by omega) (by omega), ← ih k (i + 1) (by omega) (by omega), List.take_succ_eq_append_getElem (l := ts.map word) (by simpa using hli), List.getElem_map, hx, List.append_assoc]
      rfl
    clear ih
    rw [impl_Tokens.l0, if_pos (by omega), if_pos (by omega), if_pos (by omega), rdOf_lt hli, impl_Fold_f _ (by omega) (by omega), Option.bind_some, if_pos (by omega), Option.bind_some, Int.toNat_natCast, hset, hrd]
    by_cases hw : foldS ts[i] = ⟨#[]⟩
    · rw [if_pos ((toList_nil _).2 hw), hset2]
      exact go _ (by unfold word; rw [if_pos hw])
    · rw [if_neg (fun h => hw ((toList_nil _).1 h))]
      exact go _ (by unfold word; rw [if_neg hw])
theorem impl_Tokens_f (s : ByteArray) (n : Int) {k : Nat} (hk : 400 < k) : impl_Tokens.f k s n = some (tk s n) := by
  obtain ⟨k, rfl⟩ : ∃ q, k = q + 1 := ⟨k - 1, by omega⟩
  unfold impl_Tokens.f tk
  have no : ∀ (h : ¬ (s.size ≤ 2000 ∧ 1 ≤ n ∧ n ≤ 16)), impl_Tokens.j0 (k + 1) s n true = some (if s.size ≤ 2000 ∧ 1 ≤ n ∧ n ≤ 16 then tkR n.toNat ((toks s).map word) else ([], false)) := by
    intro h
    rw [impl_Tokens.j0, if_pos rfl, if_neg h]
  by_cases h1 : (s.size : Int) > 2000
  · rw [if_pos h1]; exact no (by omega)
  · rw [if_neg h1, within_f, Option.bind_some]
    by_cases h2 : 1 ≤ n ∧ n ≤ 16
    · obtain ⟨m, rfl⟩ := Int.eq_ofNat_of_zero_le (show 0 ≤ n by omega)
      have hf : strings_FieldsFunc.f s = some (toks s) := by
        unfold strings_FieldsFunc.f
        rw [if_pos (by omega), ← goFields_toks]
        rfl
      rw [if_pos (show s.size ≤ 2000 ∧ 1 ≤ (m : Int) ∧ (m : Int) ≤ 16 from ⟨by omega, h2⟩), decide_eq_true h2, impl_Tokens.j0, if_neg (by decide), hf, Option.bind_some, Int.toNat_natCast]
      unfold tkR
      by_cases h3 : ((toks s).length : Int) > (m : Int)
      · rw [if_pos h3, if_neg (by rw [List.length_map]; omega)]
      · rw [if_neg h3, if_pos (by omega), if_pos (by omega), if_pos (by rw [List.length_map]; omega)]
        have := impl_tok_l0 (toks s) m (by omega) (by omega) (fun t ht => by have := toks_size s t ht; omega) (toks s).length k 0 (by omega) (by omega)
        rw [List.length_map]
        simpa using this
    · rw [decide_eq_false h2]; exact no (by omega)

theorem mt_l0 (d : Nat) : ∀ (u : Nat) (s : ByteArray), u < 10 ^ d → u ≤ 1000000 → s.size + d ≤ 1000 → ∃ r, ∀ k, d < k → laws_markText.l0 k (u : Int) s = some r := by
  induction d with
  | zero =>
    intro u s hu _ hs
    obtain rfl : u = 0 := by simpa using hu
    refine ⟨(⟨#[109]⟩ : ByteArray) ++ s, fun k hk => ?_⟩
    obtain ⟨k, rfl⟩ : ∃ q, k = q + 1 := ⟨k - 1, by omega⟩
    rw [laws_markText.l0, if_neg (by omega), if_pos (by omega)]
  | succ d ih =>
    intro u s hu hu2 hs
    by_cases h0 : u = 0
    · subst h0
      refine ⟨(⟨#[109]⟩ : ByteArray) ++ s, fun k hk => ?_⟩
      obtain ⟨k, rfl⟩ : ∃ q, k = q + 1 := ⟨k - 1, by omega⟩
      rw [laws_markText.l0, if_neg (by omega), if_pos (by omega)]
    · rw [Nat.pow_succ] at hu
      have hz : (strOfNums [(wrap64 (48 + (Int.tmod (u : Int) 10))) % 256]).size = 1 := by rw [strOfNums_size]; rfl
      obtain ⟨r, hr⟩ := ih (u / 10) (strOfNums [(wrap64 (48 + (Int.tmod (u : Int) 10))) % 256] ++ s) (by omega) (by omega) (by rw [ByteArray.size_append, hz]; omega)
      refine ⟨r, fun k hk => ?_⟩
      obtain ⟨k, rfl⟩ : ∃ q, k = q + 1 := ⟨k - 1, by omega⟩
      have e : Int.tdiv (u : Int) 10 = ((u / 10 : Nat) : Int) := rfl
      rw [laws_markText.l0, if_pos (by omega), Option.bind_some, if_pos (by rw [hz]; omega), e, w64 (n := ((u / 10 : Nat) : Int)) (by omega) (by omega)]
      exact hr k (by omega)
theorem mt_f (u : Nat) (hu : u ≤ 1000) : ∃ r, ∀ k, 10 < k → laws_markText.f k (u : Int) = some r := by
  by_cases h : u = 0
  · subst h
    exact ⟨_, fun k hk => by unfold laws_markText.f; rw [if_pos (by decide)]⟩
  · obtain ⟨r, hr⟩ := mt_l0 10 u ⟨#[]⟩ (by omega) (by omega) (by decide)
    exact ⟨r, fun k hk => by unfold laws_markText.f; rw [if_neg (by omega)]; exact hr k hk⟩
theorem mt_ex : ∃ mt : Nat → ByteArray, ∀ u : Nat, u ≤ 1000 → ∀ k, 10 < k → laws_markText.f k (u : Int) = some (mt u) := by
  have h : ∀ u : Nat, ∃ r : ByteArray, u ≤ 1000 → ∀ k, 10 < k → laws_markText.f k (u : Int) = some r := by
    intro u
    by_cases h : u ≤ 1000
    · obtain ⟨r, hr⟩ := mt_f u h
      exact ⟨r, fun _ => hr⟩
    · exact ⟨⟨#[]⟩, fun h2 => absurd h2 h⟩
  exact Classical.skolem.1 h
theorem markStrS_l0 (mt : Nat → ByteArray) (hmt : ∀ u : Nat, u ≤ 1000 → ∀ k, 10 < k → laws_markText.f k (u : Int) = some (mt u)) (n : Nat) (hn : n ≤ 500) (d : Nat) : ∀ (k i : Nat) (xs : List ByteArray), i + d = n → d + 20 < k → xs.length = n → xs.take i = (List.range i).map (fun j => mt (1 + j)) →
    laws_markStringS.l0 k xs ((1 + i : Nat) : Int) (i : Int) = some (((1 + n : Nat) : Int), (List.range n).map (fun j => mt (1 + j))) := by
  induction d with
  | zero =>
    intro k i xs hi hk hx ht
    obtain ⟨k, rfl⟩ : ∃ q, k = q + 1 := ⟨k - 1, by omega⟩
    obtain rfl : i = n := by omega
    rw [List.take_of_length_le (by omega)] at ht
    rw [laws_markStringS.l0, if_neg (by omega), ht]
  | succ d ih =>
    intro k i xs hi hk hx ht
    obtain ⟨k, rfl⟩ : ∃ q, k = q + 1 := ⟨k - 1, by omega⟩
    rw [laws_markStringS.l0, if_pos (by omega), hmt (1 + i) (by omega) k (by omega), Option.bind_some, if_pos (by omega), w64 (by omega) (by omega), w64 (by omega) (by omega), Int.toNat_natCast, show (((1 + i : Nat) : Int) + 1) = ((1 + (i + 1) : Nat) : Int) from by omega, show ((i : Int) + 1) = ((i + 1 : Nat) : Int) from rfl]
    refine ih k (i + 1) _ (by omega) (by omega) (by rw [List.length_set]; exact hx) ?_
    rw [List.take_succ_eq_append_getElem (by rw [List.length_set]; omega), List.take_set_of_le (Nat.le_refl _), ht, List.range_succ, List.map_append]
    simp
theorem heldStrS_l0 (mt : Nat → ByteArray) (hmt : ∀ u : Nat, u ≤ 1000 → ∀ k, 10 < k → laws_markText.f k (u : Int) = some (mt u)) (n : Nat) (hn : n ≤ 500) (d : Nat) : ∀ (k i : Nat), i + d = n → d + 20 < k →
    laws_heldStringS.l0 k ((List.range n).map (fun j => mt (1 + j))) ((1 + i : Nat) : Int) (i : Int) = some ((1 + n : Nat) : Int) := by
  induction d with
  | zero =>
    intro k i hi hk
    obtain ⟨k, rfl⟩ : ∃ q, k = q + 1 := ⟨k - 1, by omega⟩
    obtain rfl : i = n := by omega
    rw [laws_heldStringS.l0, if_neg (by simp)]
  | succ d ih =>
    intro k i hi hk
    obtain ⟨k, rfl⟩ : ∃ q, k = q + 1 := ⟨k - 1, by omega⟩
    have hli : i < ((List.range n).map (fun j => mt (1 + j))).length := by simp; omega
    have he : rdOf ByteArray.empty ((List.range n).map (fun j => mt (1 + j))) (i : Int) = mt (1 + i) := by
      unfold rdOf
      rw [Int.toNat_natCast, List.getD_eq_getElem?_getD, List.getElem?_eq_getElem hli]
      simp
    rw [laws_heldStringS.l0, if_pos (by simp; omega), if_pos (by omega), hmt (1 + i) (by omega) k (by omega), Option.bind_some, he, if_pos rfl, w64 (by omega) (by omega), w64 (by omega) (by omega), show (((1 + i : Nat) : Int) + 1) = ((1 + (i + 1) : Nat) : Int) from by omega, show ((i : Int) + 1) = ((i + 1 : Nat) : Int) from rfl]
    exact ih k (i + 1) (by omega) (by omega)
/-- a row of strings is marked, and its marks are found -/
theorem markStrS_f (xs : List ByteArray) (hx : xs.length ≤ 500) : ∃ ms : List ByteArray, ∀ k, 600 < k →
    laws_markStringS.f k xs 1 = some (((1 + xs.length : Nat) : Int), ms) ∧ laws_heldStringS.f k ms 1 = some ((1 + xs.length : Nat) : Int) := by
  obtain ⟨mt, hmt⟩ := mt_ex
  refine ⟨(List.range xs.length).map (fun j => mt (1 + j)), fun k hk => ⟨?_, ?_⟩⟩
  · exact markStrS_l0 mt hmt xs.length hx xs.length k 0 xs (by omega) (by omega) rfl rfl
  · exact heldStrS_l0 mt hmt xs.length hx xs.length k 0 (by omega) (by omega)
theorem eqStrS_l0 (xs : List ByteArray) (hx : xs.length ≤ 500) (d : Nat) : ∀ (k i : Nat), i + d = xs.length → d < k → laws_eqStringS.l0 k xs xs (i : Int) = some true := by
  induction d with
  | zero =>
    intro k i hi hk
    obtain ⟨k, rfl⟩ : ∃ q, k = q + 1 := ⟨k - 1, by omega⟩
    rw [laws_eqStringS.l0, if_neg (by omega)]
  | succ d ih =>
    intro k i hi hk
    obtain ⟨k, rfl⟩ : ∃ q, k = q + 1 := ⟨k - 1, by omega⟩
    rw [laws_eqStringS.l0, if_pos (by omega), if_pos (by omega), if_pos (by omega), if_pos rfl, w64 (by omega) (by omega)]
    exact ih k (i + 1) (by omega) (by omega)
theorem eqStrS_f (xs : List ByteArray) (hx : xs.length ≤ 500) {k : Nat} (hk : 600 < k) : laws_eqStringS.f k xs xs = some true := by
  unfold laws_eqStringS.f
  rw [if_pos rfl]
  exact eqStrS_l0 xs hx xs.length k 0 (by omega) (by omega)

theorem tk_length (s : ByteArray) (n : Int) : (tk s n).1.length ≤ 16 := by
  unfold tk tkR
  split
  · split
    · simp only [List.length_append, List.length_replicate]; omega
    · simp
  · simp
theorem FnExactTokens : laws_FnExactTokens.Pure := by
  intro s n hs hn
  obtain ⟨K, hK⟩ : ∃ K : Nat, 4200402 < K := ⟨4200403, Nat.lt_succ_self _⟩
  obtain ⟨K, rfl⟩ : ∃ q, K = q + 2 := ⟨K - 2, by omega⟩
  refine ⟨K + 2, ?_⟩
  unfold laws_FnExactTokens.f
  by_cases h : (s.size : Int) > 1048576
  · rw [if_pos h]
  · have hl := tk_length s n
    obtain ⟨ms, hms⟩ := markStrS_f (tk s n).1 (by omega)
    rw [if_neg h, spec_Tokens_f s n (by omega), Option.bind_some, impl_Tokens_f s n (by omega), Option.bind_some, eqStrS_f _ (by omega) (by omega), Option.bind_some, if_pos rfl]
    have hb : ((tk s n).2 != (tk s n).2) = false := by simp
    rw [hb, laws_FnExactTokens.j0, if_neg (by decide), (hms (K + 1) (by omega)).1, Option.bind_some]
    dsimp only
    rw [(hms (K + 1) (by omega)).2, Option.bind_some, if_neg (by omega), if_pos rfl, impl_Tokens_f s n (by omega), Option.bind_some, eqStrS_f _ (by omega) (by omega), Option.bind_some, if_pos rfl, hb, laws_FnExactTokens.j1, if_neg (by decide), (hms K (by omega)).2, Option.bind_some, if_neg (by omega), if_pos rfl]

end Go.Proofs.YthmbgcpmfmlifaaDoor.Pure
