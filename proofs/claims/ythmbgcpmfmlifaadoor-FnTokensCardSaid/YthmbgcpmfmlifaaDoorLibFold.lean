/- A text folded to small letters: byte by byte, and rune by rune as the library does it, in plain Lean; no program in sight; no conditions beyond those each lemma names. -/
import Derived.Test.YthmbgcpmfmlifaaDoorLib
import Derived.Lib.MapLaws
import Derived.Lib.TrimAscii
set_option linter.unusedVariables false
set_option linter.unusedSimpArgs false
namespace Go.Proofs.YthmbgcpmfmlifaaDoor.L
open Go.RowKit Go.Proofs.YthmbgcpmfmlifaaDoorW.PrintWords

/-- a rune, a byte folded to a small letter -/
def lowR (c : Int) : Int := if 65 ≤ c ∧ c ≤ 90 then c + 32 else c
def lowB (b : UInt8) : UInt8 := if 65 ≤ b.toNat ∧ b.toNat ≤ 90 then UInt8.ofNat (b.toNat + 32) else b
theorem lowB_nat (b : UInt8) : ((lowB b).toNat : Int) = if 65 ≤ (b.toNat : Int) ∧ (b.toNat : Int) ≤ 90 then (b.toNat : Int) + 32 else (b.toNat : Int) := by
  unfold lowB
  by_cases h : 65 ≤ b.toNat ∧ b.toNat ≤ 90
  · rw [if_pos h, if_pos (by omega)]; simp; omega
  · rw [if_neg h, if_neg (by omega)]
theorem lowB_wide {b : UInt8} (h : 128 ≤ b.toNat) : lowB b = b := by unfold lowB; rw [if_neg (by omega)]
theorem encode_len (r : Int) : (Lib.encodeRune r).length ≤ 4 := by
  unfold Lib.encodeRune Lib.encodeRuneZ
  repeat' split
  all_goals simp
theorem mapGoD_len (f : Int → Int) : ∀ (n : Nat) (l : List UInt8), (Lib.mapGoD f n l).length ≤ 4 * n
  | 0, l => by simp [Lib.mapGoD]
  | n + 1, l => by
    unfold Lib.mapGoD
    by_cases h : l = []
    · rw [if_pos h]; simp
    · rw [if_neg h, List.length_append]
      have h1 := mapGoD_len f n (l.drop (Lib.decodeL l).2)
      have h2 := encode_len (f (Lib.decodeL l).1)
      split
      · omega
      · simp; omega
theorem mapD_len (f : Int → Int) (l : List UInt8) : (Lib.mapD f l).length ≤ 4 * l.length := mapGoD_len f _ l
theorem mapD_cons (b : UInt8) (t : List UInt8) (h : b.toNat < 128) : Lib.mapD lowR (b :: t) = lowB b :: Lib.mapD lowR t := by
  rw [Lib.mapD_step lowR (b :: t) (by simp), Lib.decodeL_ascii b t h]
  have e := lowB_nat b
  have hr : lowR ((b.toNat : Nat) : Int) = ((lowB b).toNat : Int) := by rw [e]; rfl
  have h2 : ((lowB b).toNat : Int) ≤ 127 := by rw [e]; split <;> omega
  dsimp only
  rw [hr, if_pos (by omega)]
  unfold Lib.encodeRune
  rw [Lib.encodeRuneZ_one (by omega) h2]
  simp
theorem mapD_ascii (l : List UInt8) (h : ∀ b ∈ l, b.toNat < 128) : Lib.mapD lowR l = l.map lowB := by
  induction l with
  | nil => rfl
  | cons b t ih => rw [mapD_cons b t (h b List.mem_cons_self), ih (fun c hc => h c (List.mem_cons_of_mem _ hc)), List.map_cons]
/-- a rune that begins with a byte from 128 on is none of the small ones -/
theorem decode_wide (b : UInt8) (t : List UInt8) (h : 128 ≤ b.toNat) : 128 ≤ (Lib.decodeL (b :: t)).1 := by
  rw [Lib.decodeL_N]
  have e : (b :: t).getD 0 0 = b := rfl
  rw [e]
  rcases Lib.decodeN_shape (b :: t).length b.toNat ((b :: t).getD 1 0).toNat ((b :: t).getD 2 0).toNat ((b :: t).getD 3 0).toNat with ⟨c, _⟩ | ⟨_, _, _, c, e⟩ | ⟨_, _, _, _, c, _, e⟩ | ⟨_, _, _, _, _, c, _, e⟩ | e
  · omega
  all_goals (rw [e]; dsimp only; omega)
theorem mapD_wide : ∀ (n : Nat) (l : List UInt8), l.length ≤ n → (∃ b ∈ l, 128 ≤ b.toNat) → ∃ b ∈ Lib.mapD lowR l, 128 ≤ b.toNat
  | 0, l, hl, ⟨b, hb, _⟩ => by
    rw [List.eq_nil_of_length_eq_zero (Nat.le_zero.1 hl)] at hb
    cases hb
  | n + 1, [], _, ⟨b, hb, _⟩ => by cases hb
  | n + 1, c :: t, hl, ⟨b, hb, hw⟩ => by
    by_cases hc : c.toNat < 128
    · rw [mapD_cons c t hc]
      rcases List.mem_cons.1 hb with rfl | hb
      · omega
      · obtain ⟨x, hx, hx2⟩ := mapD_wide n t (by simpa using hl) ⟨b, hb, hw⟩
        exact ⟨x, List.mem_cons_of_mem _ hx, hx2⟩
    · have hr := decode_wide c t (by omega)
      rw [Lib.mapD_step lowR (c :: t) (by simp)]
      have e : lowR ((Lib.decodeL (c :: t)).1 : Int) = ((Lib.decodeL (c :: t)).1 : Int) := by unfold lowR; rw [if_neg (by omega)]
      rw [e, if_pos (by omega)]
      by_cases hv : (Lib.decodeL (c :: t)).1 = 65533 ∧ (Lib.decodeL (c :: t)).2 = 1
      · refine ⟨239, List.mem_append_left _ ?_, by decide⟩
        rw [hv.1]
        decide
      · refine ⟨c, List.mem_append_left _ ?_, by omega⟩
        rw [Lib.encode_decode (c :: t) (by simp) hv]
        have hw1 := Lib.decodeL_width (c :: t)
        obtain ⟨q, hq⟩ : ∃ q, (Lib.decodeL (c :: t)).2 = q + 1 := ⟨(Lib.decodeL (c :: t)).2 - 1, by omega⟩
        rw [hq, List.take_succ_cons]
        exact List.mem_cons_self
/-- a text folded, byte by byte -/
def lowS (s : ByteArray) : ByteArray := ⟨(s.data.toList.map lowB).toArray⟩
theorem lowS_list (s : ByteArray) : (lowS s).data.toList = s.data.toList.map lowB := by simp [lowS]
theorem size_list (s : ByteArray) : s.size = s.data.toList.length := (Array.length_toList).symm
theorem lowS_size (s : ByteArray) : (lowS s).size = s.size := by rw [size_list, size_list, lowS_list, List.length_map]
theorem bt_list (s : ByteArray) (j : Nat) (h : j < s.data.toList.length) : bt s (j : Int) = ((s.data.toList[j]).toNat : Int) := by
  rw [← rd_bytesOf]
  unfold rd bytesOf
  rw [Int.toNat_natCast, List.getD_eq_getElem?_getD, List.getElem?_map, List.getElem?_eq_getElem h]
  rfl
/-- a text with a byte from 128 on is no word -/
theorem wordB_wide {s : ByteArray} (h : ∃ b ∈ s.data.toList, 128 ≤ b.toNat) : wordB s = false := by
  obtain ⟨b, hb, hw⟩ := h
  obtain ⟨j, hj, rfl⟩ := List.getElem_of_mem hb
  unfold wordB okB
  rw [Bool.and_eq_false_iff]
  right
  rw [decide_eq_false_iff_not]
  intro hc
  have := hc j (by rw [size_list]; exact hj) (Nat.zero_le _)
  rw [bt_list s j hj] at this
  omega
/-- what Fold answers -/
def foldS (s : ByteArray) : ByteArray := if s.size ≤ 32 then (if wordB (lowS s) = true then lowS s else ⟨#[]⟩) else ⟨#[]⟩
theorem fold_runes (s : ByteArray) : (if wordB ⟨(Lib.mapD lowR s.data.toList).toArray⟩ = true then (⟨(Lib.mapD lowR s.data.toList).toArray⟩ : ByteArray) else ⟨#[]⟩) = if wordB (lowS s) = true then lowS s else ⟨#[]⟩ := by
  by_cases h : ∃ b ∈ s.data.toList, 128 ≤ b.toNat
  · obtain ⟨c, hc, hw⟩ := mapD_wide _ _ (Nat.le_refl _) h
    rw [wordB_wide (s := ⟨(Lib.mapD lowR s.data.toList).toArray⟩) ⟨c, by simpa using hc, hw⟩]
    obtain ⟨b, hb, hbw⟩ := h
    rw [wordB_wide (s := lowS s) ⟨b, by rw [lowS_list]; exact List.mem_map.2 ⟨b, hb, lowB_wide hbw⟩, hbw⟩]
    simp
  · rw [mapD_ascii _ (fun b hb => by
      rcases Nat.lt_or_ge b.toNat 128 with h1 | h1
      · exact h1
      · exact absurd ⟨b, hb, h1⟩ h)]
    rfl
end Go.Proofs.YthmbgcpmfmlifaaDoor.L
