/- The law FnMemBook holds of the program: whatever its arguments (of the kinds and sizes that the statement names), it answers true. -/
import Derived.Test.YtoceiaaigiflpaaDoorQFnMemBookx11
import Derived.Test.YtoceiaaigiflpaaDoorLib
import Derived.Test.YtoceiaaigiflpaaDoorLibBytes
import Derived.Lib.ItoaLen
set_option linter.unusedVariables false
set_option linter.unusedSimpArgs false
namespace Go.Proofs.YtoceiaaigiflpaaDoor.Pure
open Go.RowKit Go.Proofs.YtoceiaaigiflpaaDoor.PFnMemBook Go.Proofs.YtoceiaaigiflpaaDoorW.PrintWords Go.Proofs.YtoceiaaigiflpaaDoorW.PrintLast Go.Proofs.YtoceiaaigiflpaaDoor.L 

/-- bytes as numbers -/
def nB (l : List UInt8) : List Int := l.map fun b => (b.toNat : Int)
theorem nB_append (a b : List UInt8) : nB (a ++ b) = nB a ++ nB b := by simp [nB]
theorem nB_length (a : List UInt8) : (nB a).length = a.length := by simp [nB]
theorem bytesOf_nB (s : ByteArray) : bytesOf s = nB s.data.toList := rfl
theorem strOf_nB (l : List UInt8) : strOfNums (nB l) = ⟨l.toArray⟩ := by
  have h : (strOfNums (nB l)).data = l.toArray := by
    unfold strOfNums nB
    simp [Function.comp_def]
  cases hs : strOfNums (nB l) with
  | mk d => rw [hs] at h; rw [← h]

/-- the digits of a number that is not 0 -/
def preD (u : Nat) : List Int := if u = 0 then [] else nB (Lib.decDigits u)
theorem preD_step {u : Nat} (h : u ≠ 0) : preD u = preD (u / 10) ++ [((48 + u % 10 : Nat) : Int)] := by
  unfold preD
  rw [if_neg h]
  have hm : u % 10 < 10 := Nat.mod_lt _ (by decide)
  by_cases h1 : u < 10
  · rw [Lib.decDigits, dif_pos h1, if_pos (by omega)]
    simp [nB]
    omega
  · rw [Lib.decDigits, dif_neg h1, if_neg (by omega), nB_append]
    congr 1
    simp [nB]
    omega
theorem l04_tmod (u : Nat) (m : Int) (hm : m = (u : Int) ∨ m = -(u : Int)) : Int.tmod m 10 = ((u % 10 : Nat) : Int) ∨ Int.tmod m 10 = -((u % 10 : Nat) : Int) := by
  rcases hm with rfl | rfl
  · left; rfl
  · right; rw [Int.neg_tmod]; rfl
theorem l04_tdiv (u : Nat) (m : Int) (hm : m = (u : Int) ∨ m = -(u : Int)) : Int.tdiv m 10 = ((u / 10 : Nat) : Int) ∨ Int.tdiv m 10 = -((u / 10 : Nat) : Int) := by
  rcases hm with rfl | rfl
  · left; rfl
  · right; rw [Int.neg_tdiv]; rfl
theorem l04_loop (x0 : Int) (d : Nat) : ∀ (k u : Nat) (m : Int) (xs : List Int), (m = (u : Int) ∨ m = -(u : Int)) → u ≤ 9223372036854775808 → u < 10 ^ d → d < k → xs.length + d ≤ 1000 →
    spec_l04Num.l0 k x0 xs m = some (strOfNums ((if x0 < 0 then [45] else []) ++ (preD u ++ xs))) := by
  induction d with
  | zero =>
    intro k u m xs hm hu hd hk hx
    obtain ⟨k, rfl⟩ : ∃ q, k = q + 1 := ⟨k - 1, by omega⟩
    obtain rfl : u = 0 := by simp at hd; exact hd
    obtain rfl : m = 0 := by omega
    rw [spec_l04Num.l0, if_pos rfl]
    by_cases h : x0 < 0
    · rw [if_pos h, Option.bind_some, if_pos (by simp; omega), if_pos h]; rfl
    · rw [if_neg h, if_neg h]; rfl
  | succ d ih =>
    intro k u m xs hm hu hd hk hx
    obtain ⟨k, rfl⟩ : ∃ q, k = q + 1 := ⟨k - 1, by omega⟩
    by_cases h0 : u = 0
    · subst h0
      obtain rfl : m = 0 := by omega
      rw [spec_l04Num.l0, if_pos rfl]
      by_cases h : x0 < 0
      · rw [if_pos h, Option.bind_some, if_pos (by simp; omega), if_pos h]; rfl
      · rw [if_neg h, if_neg h]; rfl
    · have hdg : u / 10 < 10 ^ d := by rw [Nat.pow_succ] at hd; omega
      have hb : u % 10 < 10 := Nat.mod_lt _ (by decide)
      have h2 := l04_tdiv u m hm
      have h1 := l04_tmod u m hm
      have hw : wrap64 (Int.tdiv m 10) = Int.tdiv m 10 := w64 (by omega) (by omega)
      have step : ∀ ys : List Int, ys = [((48 + u % 10 : Nat) : Int)] → spec_l04Num.l0 k x0 (ys ++ xs) (wrap64 (Int.tdiv m 10)) = some (strOfNums ((if x0 < 0 then [45] else []) ++ (preD u ++ xs))) := by
        intro ys hy
        rw [hw, ih k (u / 10) _ (ys ++ xs) h2 (by omega) hdg (by omega) (by rw [hy]; simp; omega), preD_step h0, hy, List.append_assoc]
      rw [spec_l04Num.l0, if_neg (by omega)]
      clear ih
      by_cases hn : Int.tmod m 10 < 0
      · rw [if_pos hn, Option.bind_some, if_pos (by simp; omega)]
        refine step _ ?_
        rw [w64 (n := -(Int.tmod m 10)) (by omega) (by omega), w64 (by omega) (by omega)]
        congr 1
        omega
      · rw [if_neg hn, Option.bind_some, if_pos (by simp; omega)]
        refine step _ ?_
        rw [w64 (by omega) (by omega)]
        congr 1
        omega
theorem l04Num_f (n : Int) (h0 : -9223372036854775808 ≤ n) (h1 : n ≤ 9223372036854775807) {k : Nat} (hk : 20 < k) : spec_l04Num.f k n = some ⟨(Lib.itoa n).toArray⟩ := by
  unfold spec_l04Num.f
  by_cases hz : n = 0
  · subst hz; rw [if_pos rfl]; congr 1; unfold Lib.itoa; rw [if_neg (by decide), Lib.decDigits, dif_pos (by decide)]; rfl
  · obtain ⟨u, hu⟩ : ∃ u : Nat, u = n.natAbs := ⟨_, rfl⟩
    have h3 : n = (u : Int) ∨ n = -(u : Int) := by rw [hu]; exact Int.natAbs_eq n
    rw [if_neg hz, l04_loop n 20 k u n [] h3 (by omega) (by omega) hk (by simp), ← strOf_nB]
    congr 2
    unfold Lib.itoa preD
    rw [if_neg (show ¬ u = 0 by omega), List.append_nil]
    by_cases hn : n < 0
    · rw [if_pos hn, if_pos hn, ← hu]; simp [nB]
    · rw [if_neg hn, if_neg hn, show n.toNat = u from by omega]; rfl

theorem rd_touch {l : List S35} {i : Nat} (h : i < l.length) : rd_T35 l (i : Int) = l[i] := by unfold rd_T35; rw [Int.toNat_natCast, List.getD_eq_getElem?_getD]; simp [h]

theorem take_set_next {α : Type} (ys : List α) (i : Nat) (v : α) (h : i < ys.length) : (ys.set i v).take (i + 1) = ys.take i ++ [v] := by
  rw [List.take_succ_eq_append_getElem (by simp; omega), List.take_set_of_le (Nat.le_refl _)]
  simp

/-- an access as text: its letter, the number of the cell, a colon, how many bytes -/
def letN (t : S35) : UInt8 := if t.f0 = 1 then 114 else if t.f0 = 2 then 119 else 63
def ttL (t : S35) : List UInt8 := letN t :: (Lib.itoa t.f1 ++ 58 :: Lib.itoa t.f2)
def ttS (c : UInt8) (t : S35) : ByteArray := (((⟨#[c]⟩ : ByteArray) ++ ⟨(Lib.itoa t.f1).toArray⟩) ++ (⟨#[58]⟩ : ByteArray)) ++ ⟨(Lib.itoa t.f2).toArray⟩
theorem ttS_list (c : UInt8) (t : S35) : (ttS c t).data.toList = c :: (Lib.itoa t.f1 ++ 58 :: Lib.itoa t.f2) := by
  unfold ttS
  simp [ByteArray.data_append]
/-- numbers of 64 bits -/
def OkT (t : S35) : Prop := (-9223372036854775808 ≤ t.f1 ∧ t.f1 ≤ 9223372036854775807) ∧ (-9223372036854775808 ≤ t.f2 ∧ t.f2 ≤ 9223372036854775807)
theorem ttL_length {t : S35} (h : OkT t) : (ttL t).length ≤ 44 := by
  have h1 := Lib.itoa_length_le t.f1 h.1.1 h.1.2
  have h2 := Lib.itoa_length_le t.f2 h.2.1 h.2.2
  unfold ttL
  simp
  omega
theorem mk_size (l : List UInt8) : (⟨l.toArray⟩ : ByteArray).size = l.length := by simp [ByteArray.size]
/-- the log as text, its head told apart -/
def logL : Bool → List S35 → List UInt8
  | _, [] => []
  | b, t :: r => (if b then [] else [32]) ++ (ttL t ++ logL false r)
theorem logL_tail (r : List S35) : logL false r = Lib.joinTail [32] (r.map ttL) := by
  induction r with
  | nil => rfl
  | cons t r ih => simp only [logL, ih]; simp [Lib.joinTail]
theorem logL_join (r : List S35) : logL true r = Lib.join (r.map ttL) [32] := by
  cases r with
  | nil => rfl
  | cons t r => rw [List.map_cons, Lib.join_cons, ← logL_tail]; rfl
theorem logL_length (r : List S35) : ∀ b, (∀ t ∈ r, OkT t) → (logL b r).length ≤ 45 * r.length := by
  induction r with
  | nil => intro b _; simp [logL]
  | cons t r ih =>
    intro b h
    have h1 := ih false (fun t ht => h t (List.mem_cons_of_mem _ ht))
    have h2 := ttL_length (h t List.mem_cons_self)
    simp only [logL, List.length_append, List.length_cons]
    cases b <;> simp <;> omega
theorem size_app (a b : ByteArray) : (a ++ b).size = a.size + b.size := ByteArray.size_append
theorem spec_TouchText_l0 (l : List S35) (hl : l.length ≤ 6000) (ok : ∀ t ∈ l, OkT t) (d : Nat) : ∀ (k i : Nat) (xs : List Int), i + d = l.length → 3 * d + 30 < k → xs.length ≤ 100 * i →
    spec_TouchText.l0 k l xs (i : Int) = some (strOfNums (xs ++ nB (logL (i == 0) (l.drop i)))) := by
  induction d with
  | zero =>
    intro k i xs hi hk hx
    obtain ⟨k, rfl⟩ : ∃ q, k = q + 1 := ⟨k - 1, by omega⟩
    rw [spec_TouchText.l0, if_neg (by omega), List.drop_eq_nil_of_le (by omega)]
    simp [logL, nB]
  | succ d ih =>
    intro k i xs hi hk hx
    have hli : i < l.length := by omega
    have okt := ok _ (List.getElem_mem hli)
    have hL := ttL_length okt
    have body : ∀ (q : Nat) (zs : List Int), 3 * d + 32 < q → zs.length ≤ 100 * i + 1 → spec_TouchText.j1 q l zs (i : Int) = some (strOfNums (zs ++ (nB (ttL l[i]) ++ nB (logL false (l.drop (i + 1)))))) := by
      intro q zs hq hz
      obtain ⟨q, rfl⟩ : ∃ p, q = p + 1 + 1 := ⟨q - 2, by omega⟩
      have num1 := l04Num_f l[i].f1 okt.1.1 okt.1.2 (show 20 < q by omega)
      have num2 := l04Num_f l[i].f2 okt.2.1 okt.2.2 (show 20 < q by omega)
      have s1 := Lib.itoa_length_le l[i].f1 okt.1.1 okt.1.2
      have s2 := Lib.itoa_length_le l[i].f2 okt.2.1 okt.2.2
      have fin : ∀ (ys : List Int), ys = zs ++ [((letN l[i]).toNat : Int)] → spec_TouchText.l0 q l (ys ++ bytesOf (((⟨(Lib.itoa l[i].f1).toArray⟩ : ByteArray) ++ (⟨#[58]⟩ : ByteArray)) ++ (⟨(Lib.itoa l[i].f2).toArray⟩ : ByteArray))) ((i + 1 : Nat) : Int) = some (strOfNums (zs ++ (nB (ttL l[i]) ++ nB (logL false (l.drop (i + 1)))))) := by
        intro ys hy
        have hbo : bytesOf (((⟨(Lib.itoa l[i].f1).toArray⟩ : ByteArray) ++ (⟨#[58]⟩ : ByteArray)) ++ (⟨(Lib.itoa l[i].f2).toArray⟩ : ByteArray)) = nB (Lib.itoa l[i].f1 ++ 58 :: Lib.itoa l[i].f2) := by
          rw [bytesOf_nB]; simp [ByteArray.data_append]
        rw [hbo, ih q (i + 1) _ (by omega) (by omega) (by rw [hy]; simp [nB_length]; omega), hy]
        congr 2
        simp [ttL, nB]
      have tail : ∀ (ys : List Int), ys = zs ++ [((letN l[i]).toNat : Int)] → ((spec_l04Num.f q l[i].f1).bind fun t159 => (if t159.size + 1 ≤ 9223372036854775807 then ((spec_l04Num.f q l[i].f2).bind fun t161 => (if (t159 ++ (⟨#[58]⟩ : ByteArray)).size + t161.size ≤ 9223372036854775807 then (if ys.length + ((t159 ++ (⟨#[58]⟩ : ByteArray)) ++ t161).size < 140737488355328 then (spec_TouchText.l0 q l (ys ++ bytesOf ((t159 ++ (⟨#[58]⟩ : ByteArray)) ++ t161)) (wrap64 ((i : Int) + 1))) else (none)) else (none))) else (none))) = some (strOfNums (zs ++ (nB (ttL l[i]) ++ nB (logL false (l.drop (i + 1)))))) := by
        intro ys hy
        have hyl : ys.length = zs.length + 1 := by rw [hy]; simp
        rw [num1, Option.bind_some, if_pos (by simp only [mk_size]; omega), num2, Option.bind_some, if_pos (by simp only [size_app, mk_size, List.length_cons, List.length_nil]; omega), if_pos (by simp only [size_app, mk_size, List.length_cons, List.length_nil]; omega), w64 (by omega) (by omega)]
        exact fin ys hy
      rw [spec_TouchText.j1, if_pos (by omega), if_pos (by omega), rd_touch hli]
      by_cases e1 : l[i].f0 = 1
      · rw [if_pos e1, spec_TouchText.j2, if_pos (by omega), if_pos (by omega), rd_touch hli, if_neg (by omega), if_pos (by omega), Option.bind_some]
        exact tail _ (by unfold letN; rw [if_pos e1]; rfl)
      · rw [if_neg e1, spec_TouchText.j2, if_pos (by omega), if_pos (by omega), rd_touch hli]
        by_cases e2 : l[i].f0 = 2
        · rw [if_pos e2, if_pos (by omega), Option.bind_some]
          exact tail _ (by unfold letN; rw [if_neg e1, if_pos e2]; rfl)
        · rw [if_neg e2, if_pos (by omega), Option.bind_some]
          exact tail _ (by unfold letN; rw [if_neg e1, if_neg e2]; rfl)
    obtain ⟨k, rfl⟩ : ∃ q, k = q + 1 := ⟨k - 1, by omega⟩
    rw [spec_TouchText.l0, if_pos (by omega), List.drop_eq_getElem_cons hli]
    by_cases h : i = 0
    · subst h
      rw [if_neg (by omega), body k xs (by omega) (by omega)]
      simp [logL, nB_append]
    · rw [if_pos (by omega), if_pos (by omega), body k _ (by omega) (by simp; omega)]
      have hb : (i == 0) = false := by simpa using h
      rw [hb]
      simp [logL, nB]
theorem spec_TouchText_f (l : List S35) (ok : ∀ t ∈ l, OkT t) {k : Nat} (hk : 18100 < k) : spec_TouchText.f k l = some (if l.length ≤ 6000 then ⟨(Lib.join (l.map ttL) [32]).toArray⟩ else ⟨#[]⟩) := by
  unfold spec_TouchText.f
  by_cases h : l.length ≤ 6000
  · rw [if_neg (by omega), if_pos h]
    have := spec_TouchText_l0 l h ok l.length k 0 [] (by omega) (by omega) (by simp)
    rw [show ((0 : Nat) : Int) = 0 from rfl] at this
    rw [this, List.nil_append, List.drop_zero, show (0 == 0) = true from rfl, logL_join, strOf_nB]
  · rw [if_pos (by omega), if_neg h]
theorem impl_TouchText_l0 (l : List S35) (hl : l.length ≤ 6000) (ok : ∀ t ∈ l, OkT t) (d : Nat) : ∀ (k i : Nat) (ys : List ByteArray), i + d = l.length → d < k → ys.length = l.length → (ys.take i).map (·.data.toList) = (l.map ttL).take i →
    impl_TouchText.l0 k ys l (l.length : Int) (i : Int) = some ⟨(Lib.join (l.map ttL) [32]).toArray⟩ := by
  induction d with
  | zero =>
    intro k i ys hi hk hy ht
    obtain ⟨k, rfl⟩ : ∃ q, k = q + 1 := ⟨k - 1, by omega⟩
    rw [List.take_of_length_le (by omega), List.take_of_length_le (by rw [List.length_map]; omega)] at ht
    have hlen := logL_length l true ok
    rw [logL_join] at hlen
    rw [impl_TouchText.l0, if_neg (by omega), strings_Join.f, if_pos (by omega), ht]
    have e32 : (⟨#[32]⟩ : ByteArray).data.toList = [32] := rfl
    rw [e32, if_pos (by omega), Option.bind_some]
  | succ d ih =>
    intro k i ys hi hk hy ht
    obtain ⟨k, rfl⟩ : ∃ q, k = q + 1 := ⟨k - 1, by omega⟩
    have hli : i < l.length := by omega
    have okt := ok _ (List.getElem_mem hli)
    have s1 := Lib.itoa_length_le l[i].f1 okt.1.1 okt.1.2
    have s2 := Lib.itoa_length_le l[i].f2 okt.2.1 okt.2.2
    have num1 : strconv_Itoa_25.f l[i].f1 = some ⟨(Lib.itoa l[i].f1).toArray⟩ := by unfold strconv_Itoa_25.f; rw [if_pos okt.1.1, if_pos okt.1.2]
    have num2 : strconv_Itoa_25.f l[i].f2 = some ⟨(Lib.itoa l[i].f2).toArray⟩ := by unfold strconv_Itoa_25.f; rw [if_pos okt.2.1, if_pos okt.2.2]
    have tail : ∀ c : UInt8, c = letN l[i] → ((strconv_Itoa_25.f l[i].f1).bind fun t107 => (if 1 + t107.size ≤ 9223372036854775807 then (if ((⟨#[c]⟩ : ByteArray) ++ t107).size + 1 ≤ 9223372036854775807 then ((strconv_Itoa_25.f l[i].f2).bind fun t108 => (if (((⟨#[c]⟩ : ByteArray) ++ t107) ++ (⟨#[58]⟩ : ByteArray)).size + t108.size ≤ 9223372036854775807 then (if (i : Int) < (ys.length : Int) then (impl_TouchText.l0 k (ys.set ((i : Int) : Int).toNat ((((⟨#[c]⟩ : ByteArray) ++ t107) ++ (⟨#[58]⟩ : ByteArray)) ++ t108)) l (l.length : Int) (wrap64 ((i : Int) + 1))) else (none)) else (none))) else (none)) else (none))) = some ⟨(Lib.join (l.map ttL) [32]).toArray⟩ := by
      intro c hc
      rw [num1, Option.bind_some, if_pos (by simp only [mk_size]; omega), if_pos (by simp only [size_app, mk_size, List.length_cons, List.length_nil]; omega), num2, Option.bind_some, if_pos (by simp only [size_app, mk_size, List.length_cons, List.length_nil]; omega), if_pos (by omega), w64 (by omega) (by omega), Int.toNat_natCast]
      refine ih k (i + 1) _ (by omega) (by omega) (by rw [List.length_set]; exact hy) ?_
      have e : (((⟨#[c]⟩ : ByteArray) ++ ⟨(Lib.itoa l[i].f1).toArray⟩) ++ (⟨#[58]⟩ : ByteArray)) ++ ⟨(Lib.itoa l[i].f2).toArray⟩ = ttS c l[i] := rfl
      rw [e, take_set_next _ _ _ (by omega), List.map_append, ht, List.take_succ_eq_append_getElem (l := l.map ttL) (by rw [List.length_map]; omega), List.getElem_map]
      congr 1
      rw [List.map_cons, List.map_nil, ttS_list, hc]
      rfl
    rw [impl_TouchText.l0, if_pos (by omega), if_pos (by omega), if_pos (by omega), rd_touch hli]
    by_cases e1 : l[i].f0 = 1
    · rw [if_pos e1]
      exact tail 114 (by unfold letN; rw [if_pos e1])
    · rw [if_neg e1]
      by_cases e2 : l[i].f0 = 2
      · rw [if_pos e2]
        exact tail 119 (by unfold letN; rw [if_neg e1, if_pos e2])
      · rw [if_neg e2]
        exact tail 63 (by unfold letN; rw [if_neg e1, if_neg e2])
theorem impl_TouchText_f (l : List S35) (ok : ∀ t ∈ l, OkT t) {k : Nat} (hk : 6001 < k) : impl_TouchText.f k l = some (if l.length ≤ 6000 then ⟨(Lib.join (l.map ttL) [32]).toArray⟩ else ⟨#[]⟩) := by
  unfold impl_TouchText.f
  by_cases h : l.length ≤ 6000
  · rw [if_neg (by omega), if_pos h, if_pos (by omega), if_pos (by omega)]
    exact impl_TouchText_l0 l h ok l.length k 0 _ (by omega) (by omega) (by simp) (by simp)
  · rw [if_pos (by omega), if_neg h]

theorem within_f (a b c : Int) : impl_within.f a b c = some (decide (b ≤ a ∧ a ≤ c)) := by
  unfold impl_within.f
  by_cases h : a ≥ b
  · rw [if_pos h]; congr 1; rw [decide_eq_decide]; omega
  · rw [if_neg h]; congr 1; symm; rw [decide_eq_false_iff_not]; omega

theorem impl_newMem_l0 (n size : Int) (hn : n ≤ 128) (h0 : 0 ≤ size) (h1 : size ≤ 1000) (d : Nat) : ∀ (k i : Nat), (i : Int) + d = n → d < k →
    impl_newMem.l0 k size n (i : Int) size (List.replicate i ⟨List.replicate size.toNat 0⟩) = some (size, List.replicate n.toNat ⟨List.replicate size.toNat 0⟩, []) := by
  induction d with
  | zero =>
    intro k i hi hk
    obtain ⟨k, rfl⟩ : ∃ q, k = q + 1 := ⟨k - 1, by omega⟩
    rw [impl_newMem.l0, if_neg (by omega), show n.toNat = i from by omega]
  | succ d ih =>
    intro k i hi hk
    obtain ⟨k, rfl⟩ : ∃ q, k = q + 1 := ⟨k - 1, by omega⟩
    have h := ih k (i + 1) (by omega) (by omega)
    rw [impl_newMem.l0, if_pos (by omega), if_pos h0, if_pos (by omega), if_pos (by rw [List.length_replicate]; omega), w64 (by omega) (by omega), ← List.replicate_succ']
    exact h
theorem implNew_f (n size : Int) (h1 : 0 ≤ n) (h2 : n ≤ 128) (h3 : 1 ≤ size) (h4 : size ≤ 1000) {k : Nat} (hk : 200 < k) : impl_MemNew.f k n size = some (size, List.replicate n.toNat ⟨List.replicate size.toNat 0⟩, []) := by
  unfold impl_MemNew.f
  rw [within_f, Option.bind_some, if_pos (decide_eq_true ⟨h1, h2⟩), within_f, Option.bind_some, if_pos (decide_eq_true ⟨h3, h4⟩)]
  have h := impl_newMem_l0 n size h2 (by omega) h4 n.toNat k 0 (by omega) (by omega)
  have h' : impl_newMem.f k n size = _ := h
  rw [h', Option.bind_some]

theorem lawsPick_step (L : List Int) (hU : U8s L) (hl : 0 < L.length) (hL : L.length ≤ 140737488351232) (a n x : Int) (i k : Nat) (hi : i < 3) (ha0 : 0 ≤ a) (ha : a ≤ 1000000000000) (hx0 : 0 ≤ x) (hx : x ≤ 1000000000000) :
    ∃ y, laws_pick.l0 (k + 1) L a n x (i : Int) = laws_pick.l0 k L a n y ((i + 1 : Nat) : Int) ∧ 0 ≤ y ∧ y ≤ 31 * x + 255 := by
  have hm0 : 0 ≤ Int.tmod (a + (i : Int)) (L.length : Int) := Int.tmod_nonneg _ (by omega)
  have hm1 : Int.tmod (a + (i : Int)) (L.length : Int) < (L.length : Int) := Int.tmod_lt_of_pos _ (by omega)
  have hb := hU (Int.tmod (a + (i : Int)) (L.length : Int)).toNat (by omega)
  rw [Int.toNat_of_nonneg hm0] at hb
  refine ⟨31 * x + rd L (Int.tmod (a + (i : Int)) (L.length : Int)), ?_, by omega, by omega⟩
  rw [laws_pick.l0, if_pos (by omega), if_neg (by omega), w64 (n := a + (i : Int)) (by omega) (by omega), if_pos hm0, if_pos hm1, w64 (n := 31 * x) (by omega) (by omega), w64 (n := rd L (Int.tmod (a + (i : Int)) (L.length : Int))) (by omega) (by omega), w64 (n := 31 * x + _) (by omega) (by omega), w64 (n := (i : Int) + 1) (by omega) (by omega)]
  rfl
theorem lawsPick_f (L : List Int) (hU : U8s L) (hL : L.length ≤ 140737488351232) (a n : Int) (ha0 : 0 ≤ a) (ha : a ≤ 1000000000) (hn : 1 ≤ n) {k : Nat} (hk : 5 < k) : ∃ r, laws_pick.f k L a n = some r ∧ 0 ≤ r ∧ r < n := by
  obtain ⟨k, rfl⟩ : ∃ q, k = q + 1 + 1 + 1 + 1 + 1 := ⟨k - 5, by omega⟩
  unfold laws_pick.f
  by_cases h : (L.length : Int) = 0
  · rw [if_pos h, laws_pick.j0, if_pos rfl]
    exact ⟨0, rfl, by omega, by omega⟩
  · rw [if_neg h, laws_pick.j0]
    by_cases h2 : n < 2
    · rw [if_pos (decide_eq_true h2)]
      exact ⟨0, rfl, by omega, by omega⟩
    · rw [if_neg (by simpa using h2)]
      obtain ⟨x, e1, x0, x1⟩ := lawsPick_step L hU (by omega) hL a n 0 0 (k + 1 + 1 + 1) (by decide) ha0 (by omega) (by decide) (by decide)
      obtain ⟨y, e2, y0, y1⟩ := lawsPick_step L hU (by omega) hL a n x 1 (k + 1 + 1) (by decide) ha0 (by omega) x0 (by omega)
      obtain ⟨z, e3, z0, z1⟩ := lawsPick_step L hU (by omega) hL a n y 2 (k + 1) (by decide) ha0 (by omega) y0 (by omega)
      have e1' : laws_pick.l0 (k + 1 + 1 + 1 + 1) L a n 0 0 = laws_pick.l0 (k + 1 + 1 + 1) L a n x ((0 + 1 : Nat) : Int) := e1
      refine ⟨_, e1'.trans (e2.trans (e3.trans ?_)), Int.tmod_nonneg _ (show 0 ≤ z + a by omega), Int.tmod_lt_of_pos _ (by omega)⟩
      rw [laws_pick.l0, if_neg (by omega), if_neg (by omega), w64 (by omega) (by omega)]

theorem strOf_append (a b : List Int) : strOfNums (a ++ b) = strOfNums a ++ strOfNums b := by
  apply ByteArray.ext
  simp [strOfNums, ByteArray.data_append]
theorem sameLog_l0 (l : List S35) (hl : l.length ≤ 6000) (d : Nat) : ∀ (k i : Nat), i + d = l.length → d < k → laws_sameLog.l0 k l l (i : Int) = some true := by
  induction d with
  | zero =>
    intro k i hi hk
    obtain ⟨k, rfl⟩ : ∃ q, k = q + 1 := ⟨k - 1, by omega⟩
    rw [laws_sameLog.l0, if_neg (by omega)]
  | succ d ih =>
    intro k i hi hk
    obtain ⟨k, rfl⟩ : ∃ q, k = q + 1 := ⟨k - 1, by omega⟩
    rw [laws_sameLog.l0, if_pos (by omega), if_pos (by omega), if_pos (by omega), if_neg (by simp), w64 (by omega) (by omega)]
    exact ih k (i + 1) (by omega) (by omega)
theorem sameLog_f (l : List S35) (hl : l.length ≤ 6000) {k : Nat} (hk : 6001 < k) : laws_sameLog.f k l l = some true := by
  unfold laws_sameLog.f
  rw [if_pos rfl]
  exact sameLog_l0 l hl l.length k 0 (by omega) (by omega)
theorem lbytesOf_f (xs : List Int) (h : xs.length < 140737488355328) : laws_bytesOf.f xs = some xs := by
  unfold laws_bytesOf.f
  rw [Option.bind_some, if_pos (by simpa using h), List.nil_append]
/-- the cells as the law keeps them -/
def bookOf (cs : List S56) : List ByteArray := cs.map fun c => strOfNums c.f0
theorem bookOf_length (cs : List S56) : (bookOf cs).length = cs.length := List.length_map _
theorem bookOf_at {cs : List S56} {i : Nat} (h : i < cs.length) : rdOf ByteArray.empty (bookOf cs) (i : Int) = strOfNums cs[i].f0 := by
  unfold rdOf bookOf
  rw [Int.toNat_natCast, List.getD_eq_getElem?_getD, List.getElem?_map, List.getElem?_eq_getElem h]
  rfl
theorem bookOf_set (cs : List S56) (i : Nat) (xs : List Int) : (bookOf cs).set i (strOfNums xs) = bookOf (cs.set i ⟨xs⟩) := by
  unfold bookOf
  rw [List.map_set]
/-- what the law keeps: a memory, its book, its log -/
structure Inv (N Z : Nat) (cs : List S56) (ts : List S35) (M : Nat) : Prop where
  n1 : 1 ≤ N
  n2 : N ≤ 6
  z1 : 1 ≤ Z
  z2 : Z ≤ 4
  len : cs.length = N
  cells : ∀ c ∈ cs, c.f0.length = Z
  log : ∀ t ∈ ts, (t.f0 = 1 ∨ t.f0 = 2) ∧ 0 ≤ t.f1 ∧ t.f1 < (N : Int) ∧ t.f2 = (Z : Int)
  few : ts.length ≤ M
theorem Inv.memB {N Z M : Nat} {cs : List S56} {ts : List S35} (h : Inv N Z cs ts M) (hM : M ≤ 50) : Mm.memB (Z : Int) cs ts = true := by
  have := h.z1; have := h.z2; have := h.n2; have := h.len; have := h.few
  unfold Mm.memB
  rw [Bool.and_eq_true, Bool.and_eq_true, decide_eq_true_iff, List.all_eq_true, List.all_eq_true]
  refine ⟨by omega, fun c hc => ?_, fun t ht => ?_⟩
  · have := h.cells c hc
    unfold Mm.cellOk
    rw [decide_eq_true_iff]
    omega
  · have := h.log t ht
    unfold Mm.touchOk
    rw [decide_eq_true_iff, h.len]
    exact this
theorem Inv.okT {N Z M : Nat} {cs : List S56} {ts : List S35} (h : Inv N Z cs ts M) : ∀ t ∈ ts, OkT t := fun t ht => by
  have := h.log t ht; have := h.n2; have := h.z2
  unfold OkT
  omega
theorem Inv.le {N Z M M' : Nat} {cs : List S56} {ts : List S35} (h : Inv N Z cs ts M) (hM : M ≤ M') : Inv N Z cs ts M' := { h with few := by have := h.few; omega }
theorem Inv.write {N Z M : Nat} {cs : List S56} {ts : List S35} (h : Inv N Z cs ts M) (i : Nat) (hi : i < N) (xs : List Int) (hx : xs.length = Z) : Inv N Z (cs.set i ⟨xs⟩) (ts ++ [⟨2, (i : Int), (Z : Int)⟩]) (M + 1) :=
  { h with
    len := by rw [List.length_set]; exact h.len
    cells := fun c hc => by
      rcases List.mem_or_eq_of_mem_set hc with h1 | h1
      · exact h.cells c h1
      · rw [h1]; exact hx
    log := fun t ht => by
      rcases List.mem_append.1 ht with h1 | h1
      · exact h.log t h1
      · rw [List.mem_singleton.1 h1]; exact ⟨.inr rfl, by show (0 : Int) ≤ (i : Int); omega, by show (i : Int) < (N : Int); omega, rfl⟩
    few := by rw [List.length_append, List.length_singleton]; have := h.few; omega }
theorem Inv.read {N Z M : Nat} {cs : List S56} {ts : List S35} (h : Inv N Z cs ts M) (i : Nat) (hi : i < N) : Inv N Z cs (ts ++ [⟨1, (i : Int), (Z : Int)⟩]) (M + 1) :=
  { h with
    log := fun t ht => by
      rcases List.mem_append.1 ht with h1 | h1
      · exact h.log t h1
      · rw [List.mem_singleton.1 h1]; exact ⟨.inl rfl, by show (0 : Int) ≤ (i : Int); omega, by show (i : Int) < (N : Int); omega, rfl⟩
    few := by rw [List.length_append, List.length_singleton]; have := h.few; omega }
theorem write_in {N Z M : Nat} {cs : List S56} {ts : List S35} (h : Inv N Z cs ts M) (hM : M ≤ 50) (i : Nat) (hi : i < N) (xs : List Int) (hx : xs.length = Z) :
    impl_MemWrite.f (Z : Int) cs ts (i : Int) xs = some ((Z : Int), cs.set i ⟨xs⟩, ts ++ [⟨2, (i : Int), (Z : Int)⟩], 0) := by
  have := h.few; have := h.len; have := h.z2
  unfold impl_MemWrite.f Mm.memWriteF
  rw [if_pos (by omega), if_pos (h.memB hM), if_pos (by omega), if_pos (by omega), if_neg (by omega), Int.toNat_natCast]
theorem write_out {N Z M : Nat} {cs : List S56} {ts : List S35} (h : Inv N Z cs ts M) (hM : M ≤ 50) (xs : List Int) (hx : xs.length = Z) :
    impl_MemWrite.f (Z : Int) cs ts (N : Int) xs = some (0, [], [], 2) := by
  have := h.len; have := h.z2
  unfold impl_MemWrite.f Mm.memWriteF
  rw [if_pos (by omega), if_pos (h.memB hM), if_neg (by omega)]
theorem read_in {N Z M : Nat} {cs : List S56} {ts : List S35} (h : Inv N Z cs ts M) (hM : M ≤ 50) (i : Nat) (hi : i < N) (hc : i < cs.length) :
    impl_MemRead.f (Z : Int) cs ts (i : Int) = some ((Z : Int), cs, ts ++ [⟨1, (i : Int), (Z : Int)⟩], cs[i].f0, 0) := by
  have := h.few
  unfold impl_MemRead.f Mm.memReadF
  rw [if_pos (h.memB hM), if_pos (by omega), if_neg (by omega), Int.toNat_natCast, List.getD_eq_getElem?_getD, List.getElem?_eq_getElem hc]
  rfl
theorem read_out {N Z M : Nat} {cs : List S56} {ts : List S35} (h : Inv N Z cs ts M) (hM : M ≤ 50) :
    impl_MemRead.f (Z : Int) cs ts (N : Int) = some (0, [], [], [], 2) := by
  have := h.len
  unfold impl_MemRead.f Mm.memReadF
  rw [if_pos (h.memB hM), if_neg (by omega)]
theorem sweep_all {N Z M : Nat} {cs : List S56} {ts : List S35} (h : Inv N Z cs ts M) (hM : M ≤ 50) :
    impl_MemSweep.f (Z : Int) cs ts = some ((Z : Int), cs, ts ++ Mm.sweepT (Z : Int) cs.length, Mm.sweepB cs, 0) := by
  have := h.len; have := h.few; have := h.n2
  unfold impl_MemSweep.f Mm.memSweepF
  rw [if_pos (h.memB hM), if_neg (by omega)]
/-- the last loop: the book set together, and what is asked at the end -/
theorem mb_l3 {N Z M : Nat} {cs : List S56} {ts : List S35} (h : Inv N Z cs ts M) (hM : M ≤ 50) (d : Nat) : ∀ (k i : Nat), i + d = N → d + 19000 < k →
    laws_FnMemBook.l3 k (N : Int) (bookOf cs) ts (strOfNums (Mm.sweepB (cs.take i))) (i : Int) (Z : Int) cs ts = some true := by
  have hlen := h.len; have hn := h.n2; have hz := h.z2; have hf := h.few
  have hbl := bookOf_length cs
  induction d with
  | zero =>
    intro k i hi hk
    obtain ⟨k, rfl⟩ : ∃ q, k = q + 1 := ⟨k - 1, by omega⟩
    rw [laws_FnMemBook.l3, if_neg (by omega), sweep_all h hM, Option.bind_some]
    dsimp only
    rw [if_pos rfl, List.take_of_length_le (by omega), if_pos rfl, sameLog_f ts (by omega) (by omega), Option.bind_some, if_pos rfl, impl_TouchText_f ts h.okT (by omega), Option.bind_some, spec_TouchText_f ts h.okT (by omega), Option.bind_some]
    simp
  | succ d ih =>
    intro k i hi hk
    obtain ⟨k, rfl⟩ : ∃ q, k = q + 1 := ⟨k - 1, by omega⟩
    have hic : i < cs.length := by omega
    have hcz := h.cells _ (List.getElem_mem hic)
    have hsum : (Mm.sweepB (cs.take i)).length ≤ 100 := by
      rw [Mm.sweepB_length]
      have h1 := Mm.sumC_take cs i
      have h2 := Mm.sumC_le cs 4 (fun c hc => by have := h.cells c hc; omega)
      omega
    have e := Mm.sweepB_step hic
    rw [laws_FnMemBook.l3, if_pos (by omega), if_pos (by omega), if_pos (by omega), bookOf_at hic, if_pos (by rw [strOfNums_size, strOfNums_size]; omega), ← strOf_append, e, w64 (by omega) (by omega)]
    exact ih k (i + 1) (by omega) (by omega)
theorem mb_l2 (L : List Int) (hL : U8s L) (hl : L.length ≤ 1048576) {N Z : Nat} (hZ : Z ≤ 4) (i : Nat) (hi : i ≤ 40) (a : Int) (book : List ByteArray) (log ts : List S35) (cs : List S56) (F : Nat) (hF : 100 ≤ F)
    (go : ∀ (xs : List Int) (k : Nat), xs.length = Z → F < k → laws_FnMemBook.l2 k L (N : Int) (Z : Int) book log (i : Int) a xs (Z : Int) cs ts = some true) (d : Nat) : ∀ (k : Nat) (xs : List Int), xs.length + d = Z → F + d < k →
    laws_FnMemBook.l2 k L (N : Int) (Z : Int) book log (i : Int) a xs (Z : Int) cs ts = some true := by
  induction d with
  | zero =>
    intro k xs hx hk
    exact go xs k (by omega) (by omega)
  | succ d ih =>
    intro k xs hx hk
    obtain ⟨k, rfl⟩ : ∃ q, k = q + 1 := ⟨k - 1, by omega⟩
    obtain ⟨v, e, v0, v1⟩ := lawsPick_f L hL (by omega) ((i : Int) + (xs.length : Int) + 5) 256 (by omega) (by omega) (by decide) (show 5 < k by omega)
    rw [laws_FnMemBook.l2, if_pos (by omega), w64 (n := (i : Int) + (xs.length : Int)) (by omega) (by omega), w64 (by omega) (by omega), e, Option.bind_some, if_pos (by omega)]
    exact ih k (xs ++ [v % 256]) (by simp; omega) (by omega)
/-- one access after the other -/
theorem mb_l1 (L : List Int) (hL : U8s L) (hl : L.length ≤ 1048576) {N Z : Nat} (d : Nat) : ∀ (k i : Nat) (cs : List S56) (ts : List S35), (i : Int) + d = mn 40 (L.length : Int) → 20000 + 20 * d < k → Inv N Z cs ts i →
    laws_FnMemBook.l1 k L (N : Int) (Z : Int) (bookOf cs) ts (i : Int) (Z : Int) cs ts = some true := by
  have hmn : mn 40 (L.length : Int) ≤ 40 := by unfold mn; split <;> omega
  induction d with
  | zero =>
    intro k i cs ts hi hk h
    obtain ⟨k, rfl⟩ : ∃ q, k = q + 1 := ⟨k - 1, by omega⟩
    have h3 := mb_l3 h (by omega) N k 0 (by omega) (by have := h.n2; omega)
    rw [laws_FnMemBook.l1, if_neg (by omega)]
    exact h3
  | succ d ih =>
    intro k i cs ts hi hk h
    obtain ⟨k, rfl⟩ : ∃ q, k = q + 1 := ⟨k - 1, by omega⟩
    have n1 := h.n1; have n2 := h.n2; have z1 := h.z1; have z2 := h.z2; have hf := h.few; have hlen := h.len
    have hbl := bookOf_length cs
    obtain ⟨a, ea, a0, a1⟩ := lawsPick_f L hL (by omega) (i : Int) ((N : Int) + 1) (by omega) (by omega) (by omega) (show 5 < k by omega)
    obtain ⟨c, ec, c0, c1⟩ := lawsPick_f L hL (by omega) ((i : Int) + 3) 2 (by omega) (by omega) (by decide) (show 5 < k by omega)
    obtain ⟨a, rfl⟩ := Int.eq_ofNat_of_zero_le a0
    have same : ∀ q, 20000 + 20 * d < q → laws_FnMemBook.l1 q L (N : Int) (Z : Int) (bookOf cs) ts (wrap64 ((i : Int) + 1)) (Z : Int) cs ts = some true := by
      intro q hq
      rw [w64 (by omega) (by omega)]
      exact ih q (i + 1) cs ts (by omega) hq (h.le (by omega))
    rw [laws_FnMemBook.l1, if_pos (by omega), w64 (n := (N : Int) + 1) (by omega) (by omega), ea, Option.bind_some, w64 (n := (i : Int) + 3) (by omega) (by omega), ec, Option.bind_some]
    by_cases hc : c = 0
    · rw [if_pos hc]
      refine mb_l2 L hL hl z2 i (by omega) (a : Int) (bookOf cs) ts ts cs (20000 + 20 * d + 8) (by omega) (fun xs q hx hq => ?_) Z k [] (by simp) (by omega)
      obtain ⟨q, rfl⟩ : ∃ p, q = p + 1 + 1 := ⟨q - 2, by omega⟩
      rw [laws_FnMemBook.l2, if_neg (by omega), lbytesOf_f xs (by omega), Option.bind_some]
      by_cases han : a < N
      · rw [write_in h (by omega) a han xs hx, Option.bind_some]
        dsimp only
        rw [decide_eq_true (show (a : Int) < (N : Int) by omega), if_neg (by decide), if_neg (by omega), laws_FnMemBook.j3, if_neg (by decide), if_pos (by omega), if_pos (by omega), if_pos (by omega), if_pos (by omega), w64 (by omega) (by omega), Int.toNat_natCast, bookOf_set]
        exact ih q (i + 1) _ _ (by omega) (by omega) (h.write a han xs hx)
      · obtain rfl : a = N := by omega
        rw [write_out h (by omega) xs hx, Option.bind_some]
        dsimp only
        rw [decide_eq_false (show ¬ (a : Int) < (a : Int) by omega), if_neg (by decide), if_pos rfl, laws_FnMemBook.j3, if_neg (by decide), if_neg (by omega)]
        exact same q (by omega)
    · rw [if_neg hc]
      obtain ⟨k, rfl⟩ : ∃ p, k = p + 1 := ⟨k - 1, by omega⟩
      by_cases han : a < N
      · have hac : a < cs.length := by omega
        rw [read_in h (by omega) a han hac, Option.bind_some]
        dsimp only
        have hne : ((strOfNums cs[a].f0).toList != (strOfNums cs[a].f0).toList) = false := by simp
        rw [decide_eq_true (show (a : Int) < (N : Int) by omega), if_neg (by decide), if_pos (by omega), if_pos (by omega), if_pos (by omega), bookOf_at hac, hne, laws_FnMemBook.j4, if_neg (by decide), if_pos (by omega), if_pos (by omega), w64 (by omega) (by omega)]
        exact ih k (i + 1) _ _ (by omega) (by omega) (h.read a han)
      · obtain rfl : a = N := by omega
        rw [read_out h (by omega), Option.bind_some]
        dsimp only
        rw [decide_eq_false (show ¬ (a : Int) < (a : Int) by omega), if_neg (by decide), if_neg (by omega), laws_FnMemBook.j4, if_neg (by decide), if_neg (by omega)]
        exact same k (by omega)
theorem mb_l0 (L : List Int) (N Z : Nat) (hN : N ≤ 6) (hZ : Z ≤ 4) (log ts : List S35) (cs : List S56) (F : Nat) (go : ∀ k, F < k → laws_FnMemBook.l1 k L (N : Int) (Z : Int) (List.replicate N (strOfNums (List.replicate Z 0))) log 0 (Z : Int) cs ts = some true) (d : Nat) :
    ∀ (k i : Nat) (ys : List ByteArray), i + d = N → F + d + 1 < k → ys.length = N → ys.take i = List.replicate i (strOfNums (List.replicate Z 0)) →
    laws_FnMemBook.l0 k L (N : Int) (Z : Int) ys log (i : Int) (Z : Int) cs ts = some true := by
  induction d with
  | zero =>
    intro k i ys hi hk hy ht
    obtain ⟨k, rfl⟩ : ∃ q, k = q + 1 := ⟨k - 1, by omega⟩
    obtain rfl : i = N := by omega
    rw [List.take_of_length_le (by omega)] at ht
    rw [laws_FnMemBook.l0, if_neg (by omega), ht]
    exact go k (by omega)
  | succ d ih =>
    intro k i ys hi hk hy ht
    obtain ⟨k, rfl⟩ : ∃ q, k = q + 1 := ⟨k - 1, by omega⟩
    rw [laws_FnMemBook.l0, if_pos (by omega), if_pos (by omega), if_pos (by omega), if_pos (by omega), if_pos (by omega), w64 (by omega) (by omega), Int.toNat_natCast, Int.toNat_natCast]
    refine ih k (i + 1) _ (by omega) (by omega) (by rw [List.length_set]; exact hy) ?_
    rw [take_set_next _ _ _ (by omega), ht, List.replicate_succ']
theorem FnMemBook : laws_FnMemBook.Pure := by
  intro L _ hlen hL
  have hU := U8s.of hL
  obtain ⟨K, hK⟩ : ∃ K : Nat, 30000 < K := ⟨30001, Nat.lt_succ_self _⟩
  refine ⟨K, ?_⟩
  unfold laws_FnMemBook.f laws_big.f
  rw [Option.bind_some]
  by_cases hbig : (L.length : Int) > 1048576
  · rw [if_pos (decide_eq_true hbig)]
  · rw [if_neg (by simpa using hbig)]
    obtain ⟨n, en, n0, n1⟩ := lawsPick_f L hU (by omega) 1 6 (by decide) (by decide) (by decide) (show 5 < K by omega)
    obtain ⟨z, ez, z0, z1⟩ := lawsPick_f L hU (by omega) 2 4 (by decide) (by decide) (by decide) (show 5 < K by omega)
    rw [en, Option.bind_some, ez, Option.bind_some, w64 (n := 1 + n) (by omega) (by omega), w64 (n := 1 + z) (by omega) (by omega)]
    obtain ⟨N, hN⟩ := Int.eq_ofNat_of_zero_le (show 0 ≤ 1 + n by omega)
    obtain ⟨Z, hZ⟩ := Int.eq_ofNat_of_zero_le (show 0 ≤ 1 + z by omega)
    rw [hN, hZ, implNew_f (N : Int) (Z : Int) (by omega) (by omega) (by omega) (by omega) (by omega), Option.bind_some]
    dsimp only
    rw [if_pos (by omega), if_pos (by omega), Int.toNat_natCast, Int.toNat_natCast]
    have h : Inv N Z (List.replicate N ⟨List.replicate Z 0⟩) [] 0 :=
      { n1 := by omega, n2 := by omega, z1 := by omega, z2 := by omega, len := List.length_replicate
        cells := fun c hc => by rw [List.eq_of_mem_replicate hc]; exact List.length_replicate
        log := fun t ht => by cases ht
        few := Nat.le_refl _ }
    have hb : bookOf (List.replicate N (⟨List.replicate Z 0⟩ : S56)) = List.replicate N (strOfNums (List.replicate Z 0)) := by
      unfold bookOf
      rw [List.map_replicate]
    have hm0 : 0 ≤ mn 40 (L.length : Int) := by unfold mn; split <;> omega
    have hm1 : mn 40 (L.length : Int) ≤ 40 := by unfold mn; split <;> omega
    obtain ⟨D, hD⟩ := Int.eq_ofNat_of_zero_le hm0
    refine mb_l0 L N Z (by omega) (by omega) [] [] _ (20000 + 20 * D) (fun k hk => ?_) N K 0 _ (by omega) (by omega) List.length_replicate (by simp)
    have := mb_l1 L hU (by omega) D k 0 _ [] (by omega) hk h
    rw [hb] at this
    exact this

end Go.Proofs.YtoceiaaigiflpaaDoor.Pure
