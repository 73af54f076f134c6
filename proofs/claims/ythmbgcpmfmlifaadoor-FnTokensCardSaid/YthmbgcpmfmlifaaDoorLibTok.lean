/- The fields of a text, byte by byte, and what the library's pass over the runes makes of it; what Tokens answers, in plain Lean; no program in sight; no conditions beyond those each lemma names. -/
import Derived.Test.YthmbgcpmfmlifaaDoorLibFold
import Derived.Lib.FieldsP
set_option linter.unusedVariables false
set_option linter.unusedSimpArgs false
namespace Go.Proofs.YthmbgcpmfmlifaaDoor.L
open Go.RowKit Go.Proofs.YthmbgcpmfmlifaaDoorW.PrintWords

/-- what stands between tokens -/
def gapN (c : Nat) : Bool := c == 9 || c == 10 || c == 13 || c == 32
def gapB (b : UInt8) : Bool := gapN b.toNat
def ng (b : UInt8) : Bool := !gapB b
theorem gapB_wide {b : UInt8} (h : 128 ≤ b.toNat) : gapB b = false := by unfold gapB gapN; simp; omega
/-- the fields of l, where cur has been begun -/
def fl : List UInt8 → List UInt8 → List (List UInt8)
  | cur, [] => if cur = [] then [] else [cur]
  | cur, b :: t => if gapB b = true then (if cur = [] then [] else [cur]) ++ fl [] t else fl (cur ++ [b]) t
theorem fl_gap {b : UInt8} (h : gapB b = true) (t : List UInt8) : fl [] (b :: t) = fl [] t := by rw [fl, if_pos h, if_pos rfl, List.nil_append]
theorem fl_ng {b : UInt8} (h : gapB b = false) (cur t : List UInt8) : fl cur (b :: t) = fl (cur ++ [b]) t := by rw [fl, if_neg (by simp [h])]
theorem fl_cur (t : List UInt8) : ∀ cur : List UInt8, cur ≠ [] → fl cur t = (cur ++ t.takeWhile ng) :: fl [] (t.dropWhile ng) := by
  induction t with
  | nil => intro cur h; simp [fl, h]
  | cons b t ih =>
    intro cur h
    cases hb : gapB b with
    | true =>
      have hn : ng b = false := by simp [ng, hb]
      rw [fl, if_pos hb, if_neg h, List.takeWhile_cons_of_neg (by simp [hn]), List.dropWhile_cons_of_neg (by simp [hn]), fl_gap hb]
      simp
    | false =>
      have hn : ng b = true := by simp [ng, hb]
      rw [fl_ng hb, ih _ (by simp), List.takeWhile_cons_of_pos hn, List.dropWhile_cons_of_pos hn]
      simp
theorem fl_start {b : UInt8} (h : gapB b = false) (t : List UInt8) : fl [] (b :: t) = (b :: t).takeWhile ng :: fl [] (t.dropWhile ng) := by
  have hn : ng b = true := by simp [ng, h]
  rw [fl_ng h, fl_cur _ _ (by simp), List.takeWhile_cons_of_pos hn]
  simp
theorem fl_rest_gap {b : UInt8} (h : gapB b = true) (t : List UInt8) : fl [] ((b :: t).dropWhile ng) = fl [] t := by
  have hn : ng b = false := by simp [ng, h]
  rw [List.dropWhile_cons_of_neg (by simp [hn]), fl_gap h]
theorem fl_rest_ng {b : UInt8} (h : gapB b = false) (t : List UInt8) : (b :: t).dropWhile ng = t.dropWhile ng := by
  have hn : ng b = true := by simp [ng, h]
  rw [List.dropWhile_cons_of_pos hn]
theorem fl_skip (xs : List UInt8) : ∀ (cur t : List UInt8), (∀ b ∈ xs, gapB b = false) → fl cur (xs ++ t) = fl (cur ++ xs) t := by
  induction xs with
  | nil => intro cur t _; simp
  | cons b xs ih =>
    intro cur t h
    rw [List.cons_append, fl_ng (h b List.mem_cons_self), ih _ _ (fun c hc => h c (List.mem_cons_of_mem _ hc))]
    simp
/-- a rune that begins with a byte from 128 on has none but such bytes -/
theorem decode_bytes (b : UInt8) (t : List UInt8) (h : 128 ≤ b.toNat) : (∀ c ∈ (b :: t).take (Lib.decodeL (b :: t)).2, 128 ≤ c.toNat) ∧ (Lib.decodeL (b :: t)).2 ≤ (b :: t).length := by
  refine ⟨?_, Lib.decodeL_le _ (by simp)⟩
  rw [Lib.decodeL_N]
  have e0 : (b :: t).getD 0 0 = b := rfl
  rcases Lib.decodeN_shape (b :: t).length ((b :: t).getD 0 0).toNat ((b :: t).getD 1 0).toNat ((b :: t).getD 2 0).toNat ((b :: t).getD 3 0).toNat with ⟨c, _⟩ | ⟨_, hn, _, c, e⟩ | ⟨_, hn, _, _, c, _, e⟩ | ⟨_, hn, _, _, _, c, _, e⟩ | e
  · rw [e0] at c; omega
  · rw [e]; dsimp only
    rw [Lib.takeB _ hn]
    intro x hx
    simp only [List.mem_cons, List.not_mem_nil, or_false] at hx
    rcases hx with rfl | rfl
    · exact h
    · omega
  · rw [e]; dsimp only
    rw [Lib.takeC _ hn]
    intro x hx
    simp only [List.mem_cons, List.not_mem_nil, or_false] at hx
    rcases hx with rfl | rfl | rfl
    · exact h
    · omega
    · omega
  · rw [e]; dsimp only
    rw [Lib.takeD _ hn]
    intro x hx
    simp only [List.mem_cons, List.not_mem_nil, or_false] at hx
    rcases hx with rfl | rfl | rfl | rfl
    · exact h
    · omega
    · omega
    · omega
  · rw [e]; dsimp only
    intro x hx
    have : x = b := by simpa using hx
    rw [this]; exact h
def mkB (l : List UInt8) : ByteArray := ⟨l.toArray⟩
theorem mkB_list (l : List UInt8) : (mkB l).data.toList = l := by simp [mkB]
theorem mkB_of (s : ByteArray) (l : List UInt8) (h : s.data.toList = l) : s = mkB l := by
  cases s with
  | mk d => unfold mkB; rw [← h]
theorem ext_mkB (s : ByteArray) (a b : Nat) : s.extract a b = mkB ((s.data.toList.drop a).take (b - a)) := mkB_of _ _ (Lib.extract_data s a b)
/-- what has been begun -/
def curOf (s : ByteArray) (pos : Nat) : Option Nat → List UInt8
  | none => []
  | some a => (s.data.toList.drop a).take (pos - a)
theorem cur_step (s : ByteArray) (pos K : Nat) (st : Option Nat) (hst : ∀ a, st = some a → a < pos) : curOf s (pos + K) (some (st.getD pos)) = curOf s pos st ++ (s.data.toList.drop pos).take K := by
  cases st with
  | none => simp [curOf]
  | some a =>
    have ha := hst a rfl
    simp only [curOf, Option.getD_some]
    rw [show pos + K - a = (pos - a) + K from by omega, List.take_add, List.drop_drop, show a + (pos - a) = pos from by omega]
theorem cur_ne (s : ByteArray) (pos a : Nat) (h : a < pos) (hp : pos ≤ s.size) : curOf s pos (some a) ≠ [] := by
  intro e
  have := congrArg List.length e
  simp only [curOf, List.length_take, List.length_drop, List.length_nil] at this
  rw [← size_list] at this
  omega
theorem spans_fl (s : ByteArray) : ∀ (f pos : Nat) (st : Option Nat) (acc : List (Nat × Nat)), pos ≤ s.size → s.size - pos ≤ f → (∀ a, st = some a → a < pos) →
    (Lib.closeSpans s (Lib.spansFromP gapN s f pos st acc)).map (fun x => s.extract x.1 x.2) = acc.map (fun x => s.extract x.1 x.2) ++ (fl (curOf s pos st) (s.data.toList.drop pos)).map mkB := by
  have atEnd : ∀ (st : Option Nat) (acc : List (Nat × Nat)), (∀ a, st = some a → a < s.size) → (Lib.closeSpans s (acc, st)).map (fun x => s.extract x.1 x.2) = acc.map (fun x => s.extract x.1 x.2) ++ (fl (curOf s s.size st) (s.data.toList.drop s.size)).map mkB := by
    intro st acc hst
    rw [List.drop_eq_nil_of_le (by rw [← size_list]; exact Nat.le_refl _)]
    cases st with
    | none => simp [Lib.closeSpans, curOf, fl]
    | some a =>
      have hne := cur_ne s s.size a (hst a rfl) (Nat.le_refl _)
      simp only [Lib.closeSpans, List.map_append, List.map_cons, List.map_nil, fl, if_neg hne]
      rw [ext_mkB]
      rfl
  intro f
  induction f with
  | zero =>
    intro pos st acc hp hf hst
    obtain rfl : pos = s.size := by omega
    exact atEnd st acc hst
  | succ f ih =>
    intro pos st acc hp hf hst
    by_cases hlt : pos < s.size
    · have hll : pos < s.data.toList.length := by rw [← size_list]; exact hlt
      obtain ⟨b, t, hbt⟩ : ∃ b t, s.data.toList.drop pos = b :: t := ⟨_, _, List.drop_eq_getElem_cons hll⟩
      have hdl := Lib.decodeL_drop s pos
      rw [hbt] at hdl
      unfold Lib.spansFromP
      rw [if_pos hlt, ← hdl]
      by_cases hb : b.toNat < 128
      · rw [Lib.decodeL_ascii b t hb]
        dsimp only
        have hd1 : s.data.toList.drop (pos + 1) = t := by rw [← List.drop_drop, hbt]; rfl
        cases hg : gapN b.toNat with
        | true =>
          have hgb : gapB b = true := hg
          rw [if_pos rfl]
          cases st with
          | none =>
            dsimp only
            rw [ih (pos + 1) none acc (by omega) (by omega) (fun a h => by cases h), hbt, hd1]
            simp only [curOf]
            rw [fl_gap hgb]
          | some a =>
            dsimp only
            rw [ih (pos + 1) none _ (by omega) (by omega) (fun a h => by cases h), hbt, hd1, fl, if_pos hgb, if_neg (cur_ne s pos a (hst a rfl) hp), List.map_append, List.append_assoc, List.map_append]
            simp only [curOf, List.map_cons, List.map_nil]
            rw [ext_mkB]
        | false =>
          have hgb : gapB b = false := hg
          rw [if_neg (by decide)]
          have e := cur_step s pos 1 st hst
          rw [hbt] at e
          have fin : (fl (curOf s (pos + 1) (some (st.getD pos))) t) = fl (curOf s pos st) (b :: t) := by rw [e, fl_ng hgb]; rfl
          cases st with
          | none =>
            dsimp only
            rw [ih (pos + 1) (some pos) acc (by omega) (by omega) (fun a h => by cases h; omega), hbt, hd1]
            have := fin
            simp only [Option.getD_none] at this
            rw [this]
          | some a =>
            dsimp only
            have ha := hst a rfl
            rw [ih (pos + 1) (some a) acc (by omega) (by omega) (fun a' h => by cases h; omega), hbt, hd1]
            have := fin
            simp only [Option.getD_some] at this
            rw [this]
      · obtain ⟨hby, hle⟩ := decode_bytes b t (by omega)
        have hr := decode_wide b t (by omega)
        have hw := Lib.decodeL_width (b :: t)
        obtain ⟨K, hK⟩ : ∃ K, (Lib.decodeL (b :: t)).2 = K := ⟨_, rfl⟩
        obtain ⟨R, hR⟩ : ∃ R, (Lib.decodeL (b :: t)).1 = R := ⟨_, rfl⟩
        rw [hK] at hby hle hw ⊢
        rw [hR] at hr ⊢
        have hlen : (b :: t).length = s.size - pos := by rw [← hbt, List.length_drop, ← size_list]
        have hgR : gapN R = false := by unfold gapN; simp; omega
        rw [hgR, if_neg (by decide)]
        have e := cur_step s pos K st hst
        rw [hbt] at e
        have hdK : s.data.toList.drop (pos + K) = (b :: t).drop K := by rw [← List.drop_drop, hbt]
        have fin : fl (curOf s (pos + K) (some (st.getD pos))) ((b :: t).drop K) = fl (curOf s pos st) (b :: t) := by
          rw [e, ← fl_skip _ _ _ (fun c hc => gapB_wide (hby c hc)), List.take_append_drop]
        cases st with
        | none =>
          dsimp only
          rw [ih (pos + K) (some pos) acc (by omega) (by omega) (fun a h => by cases h; omega), hbt, hdK]
          have := fin
          simp only [Option.getD_none] at this
          rw [this]
        | some a =>
          dsimp only
          have ha := hst a rfl
          rw [ih (pos + K) (some a) acc (by omega) (by omega) (fun a' h => by cases h; omega), hbt, hdK]
          have := fin
          simp only [Option.getD_some] at this
          rw [this]
    · obtain rfl : pos = s.size := by omega
      rw [Lib.spansFromP_end _ _ _ _ _ _ hlt]
      exact atEnd st acc hst
/-- the tokens of a text -/
def toks (s : ByteArray) : List ByteArray := (fl [] s.data.toList).map mkB
theorem goFields_toks (s : ByteArray) : Lib.goFieldsP gapN s = toks s := by
  have h := spans_fl s s.size 0 none [] (Nat.zero_le _) (by omega) (fun a h => by cases h)
  unfold Lib.goFieldsP Lib.spansOfP toks
  simpa [curOf] using h
/-- a token folded, or what stands for one that is no word -/
def word (t : ByteArray) : ByteArray := if foldS t = ⟨#[]⟩ then ⟨#[63]⟩ else foldS t
/-- what Tokens answers -/
def tkR (n : Nat) (xs : List ByteArray) : List ByteArray × Bool := if xs.length ≤ n then (xs ++ List.replicate (n - xs.length) ⟨#[]⟩, true) else ([], false)
def tk (s : ByteArray) (n : Int) : List ByteArray × Bool := if s.size ≤ 2000 ∧ 1 ≤ n ∧ n ≤ 16 then tkR n.toNat ((toks s).map word) else ([], false)
theorem toList_nil (t : ByteArray) : t.toList = ([] : List UInt8) ↔ t = ⟨#[]⟩ := by
  rw [Lib.toList_data]
  constructor
  · intro h; exact mkB_of t [] h
  · rintro rfl; rfl
theorem fl_length (t : List UInt8) : ∀ cur : List UInt8, (fl cur t).length ≤ t.length + 1 := by
  induction t with
  | nil => intro cur; unfold fl; split <;> simp
  | cons b t ih =>
    intro cur
    unfold fl
    have h0 := ih []
    have h1 := ih (cur ++ [b])
    repeat' split
    all_goals simp only [List.length_append, List.length_cons, List.length_nil, List.nil_append] at *
    all_goals omega
theorem tw_len (l : List UInt8) : (l.takeWhile ng).length ≤ l.length := by
  have := congrArg List.length (List.takeWhile_append_dropWhile (p := ng) (l := l))
  rw [List.length_append] at this
  omega
end Go.Proofs.YthmbgcpmfmlifaaDoor.L
