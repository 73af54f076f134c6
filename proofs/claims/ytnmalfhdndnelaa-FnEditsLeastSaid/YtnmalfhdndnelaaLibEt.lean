/- The edits that lead from one string to another at the distance, first deletions, then insertions, else keeping or substituting, in plain Lean; no program in sight. -/
import Derived.Test.YtnmalfhdndnelaaLibEdit
import Derived.Test.YtnmalfhdndnelaaLibTab
set_option linter.unusedVariables false
set_option linter.unusedSimpArgs false
namespace Go.Proofs.Ytnmalfhdndnelaa.L
open Go.RowKit Go.Proofs.YtnmalfhdndnelaaW.PrintWords

/-- the edits from the places i and j on, at most d of them -/
def etL (s t : ByteArray) : Nat → Nat → Nat → List Int
  | 0, _, _ => []
  | d + 1, i, j =>
    if i < s.size ∨ j < t.size then
      if i < s.size ∧ levAt s t (i + 1) j + 1 = levAt s t i j then 100 :: etL s t d (i + 1) j
      else if j < t.size ∧ levAt s t i (j + 1) + 1 = levAt s t i j then 105 :: etL s t d i (j + 1)
      else if bt s (i : Int) = bt t (j : Int) then 107 :: etL s t d (i + 1) (j + 1)
      else 115 :: etL s t d (i + 1) (j + 1)
    else []
/-- where neither a deletion nor an insertion is on a best way, both strings go on, and the best way keeps or substitutes -/
theorem et_both {s t : ByteArray} {i j : Nat} (hi : i ≤ s.size) (hj : j ≤ t.size) (h : i < s.size ∨ j < t.size) (h1 : ¬ (i < s.size ∧ levAt s t (i + 1) j + 1 = levAt s t i j)) (h2 : ¬ (j < t.size ∧ levAt s t i (j + 1) + 1 = levAt s t i j)) :
    i < s.size ∧ j < t.size ∧ levAt s t i j = levAt s t (i + 1) (j + 1) + ne01 (bt s (i : Int)) (bt t (j : Int)) := by
  have hi' : i < s.size := by
    rcases Nat.lt_or_ge i s.size with c | c
    · exact c
    · exfalso
      obtain rfl : i = s.size := by omega
      refine h2 ⟨by omega, ?_⟩
      rw [levAt_end, levAt_end]
      omega
  have hj' : j < t.size := by
    rcases Nat.lt_or_ge j t.size with c | c
    · exact c
    · exfalso
      obtain rfl : j = t.size := by omega
      refine h1 ⟨hi', ?_⟩
      rw [levAt_end', levAt_end']
      omega
  have hs := levAt_step s t hi' hj'
  refine ⟨hi', hj', ?_⟩
  omega
theorem etL_length (s t : ByteArray) : ∀ d i j, (etL s t d i j).length ≤ d
  | 0, _, _ => by simp [etL]
  | d + 1, i, j => by
    have a := etL_length s t d (i + 1) j
    have b := etL_length s t d i (j + 1)
    have c := etL_length s t d (i + 1) (j + 1)
    rw [etL]
    split
    · split
      · simp only [List.length_cons]; omega
      · split
        · simp only [List.length_cons]; omega
        · split <;> (simp only [List.length_cons]; omega)
    · simp
theorem bt_strOfNums (xs : List Int) (h : ∀ x ∈ xs, 0 ≤ x ∧ x ≤ 255) {p : Nat} (hp : p < xs.length) : bt (strOfNums xs) (p : Int) = xs[p] := by
  have hx := h _ (List.getElem_mem hp)
  unfold bt
  rw [dif_pos (by rw [strOfNums_size]; simpa using hp)]
  show (((strOfNums xs).data[(p : Int).toNat]'_).toNat : Int) = _
  simp only [Int.toNat_natCast, strOfNums, List.getElem_toArray, List.getElem_map, UInt8.toNat_ofNat']
  omega
/-- the cost of these edits is the distance -/
theorem ec_etL (e s t : ByteArray) : ∀ (d i j p : Nat) (c : Int), i ≤ s.size → j ≤ t.size → (s.size - i) + (t.size - j) ≤ d →
    (∀ q : Nat, q < (etL s t d i j).length → bt e ((p + q : Nat) : Int) = (etL s t d i j).getD q 0) → ec e s t (etL s t d i j).length p i j c = c + (levAt s t i j : Int)
  | 0, i, j, p, c => fun hi hj hd hb => by
    rw [etL, List.length_nil, ec, if_neg (by omega), show i = s.size from by omega, levAt_end]
    omega
  | d + 1, i, j, p, c => fun hi hj hd hb => by
    by_cases h : i < s.size ∨ j < t.size
    · by_cases h1 : i < s.size ∧ levAt s t (i + 1) j + 1 = levAt s t i j
      · have e1 : etL s t (d + 1) i j = 100 :: etL s t d (i + 1) j := by rw [etL, if_pos h, if_pos h1]
        rw [e1] at hb ⊢
        have b0 := hb 0 (by simp)
        rw [Nat.add_zero] at b0
        have ih := ec_etL e s t d (i + 1) j (p + 1) (c + 1) (by omega) hj (by omega) (fun q hq => by
          have := hb (q + 1) (by simp; omega)
          rw [show p + (q + 1) = p + 1 + q from by omega] at this
          simpa using this)
        rw [List.length_cons, ec, if_pos (by simpa using b0), if_neg (by omega), ih]
        omega
      · by_cases h2 : j < t.size ∧ levAt s t i (j + 1) + 1 = levAt s t i j
        · have e1 : etL s t (d + 1) i j = 105 :: etL s t d i (j + 1) := by rw [etL, if_pos h, if_neg h1, if_pos h2]
          rw [e1] at hb ⊢
          have b0 : bt e (p : Int) = 105 := by
            have := hb 0 (by simp)
            rw [Nat.add_zero] at this
            simpa using this
          have ih := ec_etL e s t d i (j + 1) (p + 1) (c + 1) hi (by omega) (by omega) (fun q hq => by
            have := hb (q + 1) (by simp; omega)
            rw [show p + (q + 1) = p + 1 + q from by omega] at this
            simpa using this)
          rw [List.length_cons, ec, if_neg (by rw [b0]; decide), if_pos b0, if_neg (by omega), ih]
          omega
        · obtain ⟨hi', hj', hl⟩ := et_both hi hj h h1 h2
          by_cases h3 : bt s (i : Int) = bt t (j : Int)
          · have e1 : etL s t (d + 1) i j = 107 :: etL s t d (i + 1) (j + 1) := by rw [etL, if_pos h, if_neg h1, if_neg h2, if_pos h3]
            rw [e1] at hb ⊢
            have b0 : bt e (p : Int) = 107 := by
              have := hb 0 (by simp)
              rw [Nat.add_zero] at this
              simpa using this
            have ih := ec_etL e s t d (i + 1) (j + 1) (p + 1) c (by omega) (by omega) (by omega) (fun q hq => by
              have := hb (q + 1) (by simp; omega)
              rw [show p + (q + 1) = p + 1 + q from by omega] at this
              simpa using this)
            rw [ne01, if_pos h3] at hl
            rw [List.length_cons, ec, if_neg (by rw [b0]; decide), if_neg (by rw [b0]; decide), if_pos b0, if_neg (by omega), if_pos h3, ih]
            omega
          · have e1 : etL s t (d + 1) i j = 115 :: etL s t d (i + 1) (j + 1) := by rw [etL, if_pos h, if_neg h1, if_neg h2, if_neg h3]
            rw [e1] at hb ⊢
            have b0 : bt e (p : Int) = 115 := by
              have := hb 0 (by simp)
              rw [Nat.add_zero] at this
              simpa using this
            have ih := ec_etL e s t d (i + 1) (j + 1) (p + 1) (c + 1) (by omega) (by omega) (by omega) (fun q hq => by
              have := hb (q + 1) (by simp; omega)
              rw [show p + (q + 1) = p + 1 + q from by omega] at this
              simpa using this)
            rw [ne01, if_neg h3] at hl
            rw [List.length_cons, ec, if_neg (by rw [b0]; decide), if_neg (by rw [b0]; decide), if_neg (by rw [b0]; decide), if_pos b0, if_neg (by omega), if_neg h3, ih]
            omega
    · have e1 : etL s t (d + 1) i j = [] := by rw [etL, if_neg h]
      rw [e1, List.length_nil, ec, if_neg h, show i = s.size from by omega, levAt_end]
      omega
theorem etL_bytes (s t : ByteArray) : ∀ d i j, ∀ x ∈ etL s t d i j, 0 ≤ x ∧ x ≤ 255
  | 0, _, _ => by simp [etL]
  | d + 1, i, j => by
    have a := etL_bytes s t d (i + 1) j
    have b := etL_bytes s t d i (j + 1)
    have c := etL_bytes s t d (i + 1) (j + 1)
    intro x hx
    rw [etL] at hx
    split at hx
    · split at hx
      · rcases List.mem_cons.1 hx with h | h
        · omega
        · exact a x h
      · split at hx
        · rcases List.mem_cons.1 hx with h | h
          · omega
          · exact b x h
        · split at hx
          · rcases List.mem_cons.1 hx with h | h
            · omega
            · exact c x h
          · rcases List.mem_cons.1 hx with h | h
            · omega
            · exact c x h
    · cases hx
/-- what EditText tells -/
def etN (s t : ByteArray) : ByteArray := if s.size ≤ 32 ∧ t.size ≤ 32 then strOfNums (etL s t 64 0 0) else ⟨#[]⟩
theorem ecN_etN (s t : ByteArray) (hs : s.size ≤ 32) (ht : t.size ≤ 32) : ecN (etN s t) s t = (lev (bytesOf s) (bytesOf t) : Int) := by
  unfold ecN etN
  have hl := etL_length s t 64 0 0
  have hb := etL_bytes s t 64 0 0
  have hsz : (strOfNums (etL s t 64 0 0)).size = (etL s t 64 0 0).length := strOfNums_size _
  rw [if_pos (show s.size ≤ 32 ∧ t.size ≤ 32 from ⟨hs, ht⟩), if_pos (show s.size ≤ 32 ∧ t.size ≤ 32 ∧ (strOfNums (etL s t 64 0 0)).size ≤ 64 from ⟨hs, ht, by omega⟩), hsz]
  have := ec_etL (strOfNums (etL s t 64 0 0)) s t 64 0 0 0 0 (by omega) (by omega) (by omega) (fun q hq => by
    rw [Nat.zero_add, bt_strOfNums _ hb hq]
    simp [List.getD_eq_getElem?_getD, hq])
  rw [this, levAt_top]
  omega
end Go.Proofs.Ytnmalfhdndnelaa.L
