/- The law FnExactTouchText holds of the program: whatever its arguments (of the kinds and sizes that the statement names), it answers true. -/
import Derived.Test.YtoceiaaigiflpaaDoorQFnExactTouchTextx5
import Derived.Test.YtoceiaaigiflpaaDoorLib
import Derived.Test.YtoceiaaigiflpaaDoorLibBytes
import Derived.Lib.ItoaLen
set_option linter.unusedVariables false
set_option linter.unusedSimpArgs false
namespace Go.Proofs.YtoceiaaigiflpaaDoor.Pure
open Go.RowKit Go.Proofs.YtoceiaaigiflpaaDoor.PFnExactTouchText Go.Proofs.YtoceiaaigiflpaaDoorW.PrintWords Go.Proofs.YtoceiaaigiflpaaDoorW.PrintLast Go.Proofs.YtoceiaaigiflpaaDoor.L 

/-- bytes as numbers -/
def nB (l : List UInt8) : List Int := l.map fun b => (b.toNat : Int)
theorem nB_append (a b : List UInt8) : nB (a ++ b) = nB a ++ nB b := by simp [nB]
theorem nB_length (a : List UInt8) : (nB a).length = a.length := by simp [nB]
theorem bytesOf_nB (s : ByteArray) : bytesOf s = nB s.data.toList := rfl
theorem strOf_nB (l : List UInt8) : strOfNums (nB l) = ⟨l.toArray⟩ := by
  have h : (strOfNums (nB l)).data = l.toArray := by
    unfold strOfNums nB
    simp [Function.comp_def]
  cases hs : strOfNums (nB l) with
  | mk d => rw [hs] at h; rw [← h]
/-- the digits of a number that is not 0 -/
def preD (u : Nat) : List Int := if u = 0 then [] else nB (Lib.decDigits u)
theorem preD_step {u : Nat} (h : u ≠ 0) : preD u = preD (u / 10) ++ [((48 + u % 10 : Nat) : Int)] := by
  unfold preD
  rw [if_neg h]
  have hm : u % 10 < 10 := Nat.mod_lt _ (by decide)
  by_cases h1 : u < 10
  · rw [Lib.decDigits, dif_pos h1, if_pos (by omega)]
    simp [nB]
    omega
  · rw [Lib.decDigits, dif_neg h1, if_neg (by omega), nB_append]
    congr 1
    simp [nB]
    omega
theorem l04_tmod (u : Nat) (m : Int) (hm : m = (u : Int) ∨ m = -(u : Int)) : Int.tmod m 10 = ((u % 10 : Nat) : Int) ∨ Int.tmod m 10 = -((u % 10 : Nat) : Int) := by
  rcases hm with rfl | rfl
  · left; rfl
  · right; rw [Int.neg_tmod]; rfl
theorem l04_tdiv (u : Nat) (m : Int) (hm : m = (u : Int) ∨ m = -(u : Int)) : Int.tdiv m 10 = ((u / 10 : Nat) : Int) ∨ Int.tdiv m 10 = -((u / 10 : Nat) : Int) := by
  rcases hm with rfl | rfl
  · left; rfl
  · right; rw [Int.neg_tdiv]; rfl
theorem l04_loop (x0 : Int) (d : Nat) : ∀ (k u : Nat) (m : Int) (xs : List Int), (m = (u : Int) ∨ m = -(u : Int)) → u ≤ 9223372036854775808 → u < 10 ^ d → d < k → xs.length + d ≤ 1000 →
    spec_l04Num.l0 k x0 xs m = some (strOfNums ((if x0 < 0 then [45] else []) ++ (preD u ++ xs))) := by
  induction d with
  | zero =>
    intro k u m xs hm hu hd hk hx
    obtain ⟨k, rfl⟩ : ∃ q, k = q + 1 := ⟨k - 1, by omega⟩
    obtain rfl : u = 0 := by simp at hd; exact hd
    obtain rfl : m = 0 := by omega
    rw [spec_l04Num.l0, if_pos rfl]
    by_cases h : x0 < 0
    · rw [if_pos h, Option.bind_some, if_pos (by simp; omega), if_pos h]; rfl
    · rw [if_neg h, if_neg h]; rfl
  | succ d ih =>
    intro k u m xs hm hu hd hk hx
    obtain ⟨k, rfl⟩ : ∃ q, k = q + 1 := ⟨k - 1, by omega⟩
    by_cases h0 : u = 0
    · subst h0
      obtain rfl : m = 0 := by omega
      rw [spec_l04Num.l0, if_pos rfl]
      by_cases h : x0 < 0
      · rw [if_pos h, Option.bind_some, if_pos (by simp; omega), if_pos h]; rfl
      · rw [if_neg h, if_neg h]; rfl
    · have hdg : u / 10 < 10 ^ d := by rw [Nat.pow_succ] at hd; omega
      have hb : u % 10 < 10 := Nat.mod_lt _ (by decide)
      have h2 := l04_tdiv u m hm
      have h1 := l04_tmod u m hm
      have hw : wrap64 (Int.tdiv m 10) = Int.tdiv m 10 := w64 (by omega) (by omega)
      have step : ∀ ys : List Int, ys = [((48 + u % 10 : Nat) : Int)] → spec_l04Num.l0 k x0 (ys ++ xs) (wrap64 (Int.tdiv m 10)) = some (strOfNums ((if x0 < 0 then [45] else []) ++ (preD u ++ xs))) := by
        intro ys hy
        rw [hw, ih k (u / 10) _ (ys ++ xs) h2 (by omega) hdg (by omega) (by rw [hy]; simp; omega), preD_step h0, hy, List.append_assoc]
      rw [spec_l04Num.l0, if_neg (by omega)]
      clear ih
      by_cases hn : Int.tmod m 10 < 0
      · rw [if_pos hn, Option.bind_some, if_pos (by simp; omega)]
        refine step _ ?_
        rw [w64 (n := -(Int.tmod m 10)) (by omega) (by omega), w64 (by omega) (by omega)]
        congr 1
        omega
      · rw [if_neg hn, Option.bind_some, if_pos (by simp; omega)]
        refine step _ ?_
        rw [w64 (by omega) (by omega)]
        congr 1
        omega
theorem l04Num_f (n : Int) (h0 : -9223372036854775808 ≤ n) (h1 : n ≤ 9223372036854775807) {k : Nat} (hk : 20 < k) : spec_l04Num.f k n = some ⟨(Lib.itoa n).toArray⟩ := by
  unfold spec_l04Num.f
  by_cases hz : n = 0
  · subst hz; rw [if_pos rfl]; congr 1; unfold Lib.itoa; rw [if_neg (by decide), Lib.decDigits, dif_pos (by decide)]; rfl
  · obtain ⟨u, hu⟩ : ∃ u : Nat, u = n.natAbs := ⟨_, rfl⟩
    have h3 : n = (u : Int) ∨ n = -(u : Int) := by rw [hu]; exact Int.natAbs_eq n
    rw [if_neg hz, l04_loop n 20 k u n [] h3 (by omega) (by omega) hk (by simp), ← strOf_nB]
    congr 2
    unfold Lib.itoa preD
    rw [if_neg (show ¬ u = 0 by omega), List.append_nil]
    by_cases hn : n < 0
    · rw [if_pos hn, if_pos hn, ← hu]; simp [nB]
    · rw [if_neg hn, if_neg hn, show n.toNat = u from by omega]; rfl

theorem rd_touch {l : List S35} {i : Nat} (h : i < l.length) : rd_T35 l (i : Int) = l[i] := by unfold rd_T35; rw [Int.toNat_natCast, List.getD_eq_getElem?_getD]; simp [h]

/-- an access as the program's own -/
def touchOf (t : S53) : S35 := ⟨t.f0, t.f1, t.f2⟩
theorem rd_ltouch {l : List S53} {i : Nat} (h : i < l.length) : rd_T53 l (i : Int) = l[i] := by unfold rd_T53; rw [Int.toNat_natCast, List.getD_eq_getElem?_getD]; simp [h]
theorem take_set_next {α : Type} (ys : List α) (i : Nat) (v : α) (h : i < ys.length) : (ys.set i v).take (i + 1) = ys.take i ++ [v] := by
  rw [List.take_succ_eq_append_getElem (by simp; omega), List.take_set_of_le (Nat.le_refl _)]
  simp
theorem toTouchS_l0 (l : List S53) (hl : l.length ≤ 1048576) (d : Nat) : ∀ (k i : Nat) (ys : List S35), i + d = l.length → d < k → ys.length = l.length → ys.take i = (l.map touchOf).take i →
    laws_toTouchS.l0 k l ys (i : Int) = some (l.map touchOf) := by
  induction d with
  | zero =>
    intro k i ys hi hk hy ht
    obtain ⟨k, rfl⟩ : ∃ q, k = q + 1 := ⟨k - 1, by omega⟩
    rw [laws_toTouchS.l0, if_neg (by omega)]
    rw [List.take_of_length_le (by omega), List.take_of_length_le (by rw [List.length_map]; omega)] at ht
    rw [ht]
  | succ d ih =>
    intro k i ys hi hk hy ht
    obtain ⟨k, rfl⟩ : ∃ q, k = q + 1 := ⟨k - 1, by omega⟩
    have hli : i < l.length := by omega
    rw [laws_toTouchS.l0, if_pos (by omega), if_pos (by omega), laws_toTouch.f, Option.bind_some, if_pos (by omega), w64 (by omega) (by omega), Int.toNat_natCast]
    refine ih k (i + 1) _ (by omega) (by omega) (by rw [List.length_set]; exact hy) ?_
    rw [take_set_next _ _ _ (by omega), ht, List.take_succ_eq_append_getElem (l := l.map touchOf) (by rw [List.length_map]; omega), List.getElem_map, rd_ltouch hli]
    rfl
theorem toTouchS_f (l : List S53) (hl : l.length ≤ 1048576) {k : Nat} (hk : 1048577 < k) : laws_toTouchS.f k l = some (l.map touchOf) := by
  unfold laws_toTouchS.f
  rw [if_pos (by omega), if_pos (by omega)]
  exact toTouchS_l0 l hl l.length k 0 _ (by omega) (by omega) (by simp) (by simp)
theorem eqTouchS_l0 (l : List S35) (hl : l.length ≤ 1048576) (d : Nat) : ∀ (k i : Nat), i + d = l.length → d < k → laws_eqTouchS.l0 k l l (i : Int) = some true := by
  induction d with
  | zero =>
    intro k i hi hk
    obtain ⟨k, rfl⟩ : ∃ q, k = q + 1 := ⟨k - 1, by omega⟩
    rw [laws_eqTouchS.l0, if_neg (by omega)]
  | succ d ih =>
    intro k i hi hk
    obtain ⟨k, rfl⟩ : ∃ q, k = q + 1 := ⟨k - 1, by omega⟩
    rw [laws_eqTouchS.l0, if_pos (by omega), if_pos (by omega), if_pos (by omega), laws_eqTouch.f, if_pos rfl, if_pos rfl, if_pos rfl, Option.bind_some, if_pos rfl, w64 (by omega) (by omega)]
    exact ih k (i + 1) (by omega) (by omega)

/-- an access as text: its letter, the number of the cell, a colon, how many bytes -/
def letN (t : S35) : UInt8 := if t.f0 = 1 then 114 else if t.f0 = 2 then 119 else 63
def ttL (t : S35) : List UInt8 := letN t :: (Lib.itoa t.f1 ++ 58 :: Lib.itoa t.f2)
def ttS (c : UInt8) (t : S35) : ByteArray := (((⟨#[c]⟩ : ByteArray) ++ ⟨(Lib.itoa t.f1).toArray⟩) ++ (⟨#[58]⟩ : ByteArray)) ++ ⟨(Lib.itoa t.f2).toArray⟩
theorem ttS_list (c : UInt8) (t : S35) : (ttS c t).data.toList = c :: (Lib.itoa t.f1 ++ 58 :: Lib.itoa t.f2) := by
  unfold ttS
  simp [ByteArray.data_append]
/-- numbers of 64 bits -/
def OkT (t : S35) : Prop := (-9223372036854775808 ≤ t.f1 ∧ t.f1 ≤ 9223372036854775807) ∧ (-9223372036854775808 ≤ t.f2 ∧ t.f2 ≤ 9223372036854775807)
theorem ttL_length {t : S35} (h : OkT t) : (ttL t).length ≤ 44 := by
  have h1 := Lib.itoa_length_le t.f1 h.1.1 h.1.2
  have h2 := Lib.itoa_length_le t.f2 h.2.1 h.2.2
  unfold ttL
  simp
  omega
theorem mk_size (l : List UInt8) : (⟨l.toArray⟩ : ByteArray).size = l.length := by simp [ByteArray.size]
/-- the log as text, its head told apart -/
def logL : Bool → List S35 → List UInt8
  | _, [] => []
  | b, t :: r => (if b then [] else [32]) ++ (ttL t ++ logL false r)
theorem logL_tail (r : List S35) : logL false r = Lib.joinTail [32] (r.map ttL) := by
  induction r with
  | nil => rfl
  | cons t r ih => simp only [logL, ih]; simp [Lib.joinTail]
theorem logL_join (r : List S35) : logL true r = Lib.join (r.map ttL) [32] := by
  cases r with
  | nil => rfl
  | cons t r => rw [List.map_cons, Lib.join_cons, ← logL_tail]; rfl
theorem logL_length (r : List S35) : ∀ b, (∀ t ∈ r, OkT t) → (logL b r).length ≤ 45 * r.length := by
  induction r with
  | nil => intro b _; simp [logL]
  | cons t r ih =>
    intro b h
    have h1 := ih false (fun t ht => h t (List.mem_cons_of_mem _ ht))
    have h2 := ttL_length (h t List.mem_cons_self)
    simp only [logL, List.length_append, List.length_cons]
    cases b <;> simp <;> omega
theorem size_app (a b : ByteArray) : (a ++ b).size = a.size + b.size := ByteArray.size_append
theorem spec_TouchText_l0 (l : List S35) (hl : l.length ≤ 6000) (ok : ∀ t ∈ l, OkT t) (d : Nat) : ∀ (k i : Nat) (xs : List Int), i + d = l.length → 3 * d + 30 < k → xs.length ≤ 100 * i →
    spec_TouchText.l0 k l xs (i : Int) = some (strOfNums (xs ++ nB (logL (i == 0) (l.drop i)))) := by
  induction d with
  | zero =>
    intro k i xs hi hk hx
    obtain ⟨k, rfl⟩ : ∃ q, k = q + 1 := ⟨k - 1, by omega⟩
    rw [spec_TouchText.l0, if_neg (by omega), List.drop_eq_nil_of_le (by omega)]
    simp [logL, nB]
  | succ d ih =>
    intro k i xs hi hk hx
    have hli : i < l.length := by omega
    have okt := ok _ (List.getElem_mem hli)
    have hL := ttL_length okt
    have body : ∀ (q : Nat) (zs : List Int), 3 * d + 32 < q → zs.length ≤ 100 * i + 1 → spec_TouchText.j1 q l zs (i : Int) = some (strOfNums (zs ++ (nB (ttL l[i]) ++ nB (logL false (l.drop (i + 1)))))) := by
      intro q zs hq hz
      obtain ⟨q, rfl⟩ : ∃ p, q = p + 1 + 1 := ⟨q - 2, by omega⟩
      have num1 := l04Num_f l[i].f1 okt.1.1 okt.1.2 (show 20 < q by omega)
      have num2 := l04Num_f l[i].f2 okt.2.1 okt.2.2 (show 20 < q by omega)
      have s1 := Lib.itoa_length_le l[i].f1 okt.1.1 okt.1.2
      have s2 := Lib.itoa_length_le l[i].f2 okt.2.1 okt.2.2
      have fin : ∀ (ys : List Int), ys = zs ++ [((letN l[i]).toNat : Int)] → spec_TouchText.l0 q l (ys ++ bytesOf (((⟨(Lib.itoa l[i].f1).toArray⟩ : ByteArray) ++ (⟨#[58]⟩ : ByteArray)) ++ (⟨(Lib.itoa l[i].f2).toArray⟩ : ByteArray))) ((i + 1 : Nat) : Int) = some (strOfNums (zs ++ (nB (ttL l[i]) ++ nB (logL false (l.drop (i + 1)))))) := by
        intro ys hy
        have hbo : bytesOf (((⟨(Lib.itoa l[i].f1).toArray⟩ : ByteArray) ++ (⟨#[58]⟩ : ByteArray)) ++ (⟨(Lib.itoa l[i].f2).toArray⟩ : ByteArray)) = nB (Lib.itoa l[i].f1 ++ 58 :: Lib.itoa l[i].f2) := by
          rw [bytesOf_nB]; simp [ByteArray.data_append]
        rw [hbo, ih q (i + 1) _ (by omega) (by omega) (by rw [hy]; simp [nB_length]; omega), hy]
        congr 2
        simp [ttL, nB]
      have tail : ∀ (ys : List Int), ys = zs ++ [((letN l[i]).toNat : Int)] → ((spec_l04Num.f q l[i].f1).bind fun t159 => (if t159.size + 1 ≤ 9223372036854775807 then ((spec_l04Num.f q l[i].f2).bind fun t161 => (if (t159 ++ (⟨#[58]⟩ : ByteArray)).size + t161.size ≤ 9223372036854775807 then (if ys.length + ((t159 ++ (⟨#[58]⟩ : ByteArray)) ++ t161).size < 140737488355328 then (spec_TouchText.l0 q l (ys ++ bytesOf ((t159 ++ (⟨#[58]⟩ : ByteArray)) ++ t161)) (wrap64 ((i : Int) + 1))) else (none)) else (none))) else (none))) = some (strOfNums (zs ++ (nB (ttL l[i]) ++ nB (logL false (l.drop (i + 1)))))) := by
        intro ys hy
        have hyl : ys.length = zs.length + 1 := by rw [hy]; simp
        rw [num1, Option.bind_some, if_pos (by simp only [mk_size]; omega), num2, Option.bind_some, if_pos (by simp only [size_app, mk_size, List.length_cons, List.length_nil]; omega), if_pos (by simp only [size_app, mk_size, List.length_cons, List.length_nil]; omega), w64 (by omega) (by omega)]
        exact fin ys hy
      rw [spec_TouchText.j1, if_pos (by omega), if_pos (by omega), rd_touch hli]
      by_cases e1 : l[i].f0 = 1
      · rw [if_pos e1, spec_TouchText.j2, if_pos (by omega), if_pos (by omega), rd_touch hli, if_neg (by omega), if_pos (by omega), Option.bind_some]
        exact tail _ (by unfold letN; rw [if_pos e1]; rfl)
      · rw [if_neg e1, spec_TouchText.j2, if_pos (by omega), if_pos (by omega), rd_touch hli]
        by_cases e2 : l[i].f0 = 2
        · rw [if_pos e2, if_pos (by omega), Option.bind_some]
          exact tail _ (by unfold letN; rw [if_neg e1, if_pos e2]; rfl)
        · rw [if_neg e2, if_pos (by omega), Option.bind_some]
          exact tail _ (by unfold letN; rw [if_neg e1, if_neg e2]; rfl)
    obtain ⟨k, rfl⟩ : ∃ q, k = q + 1 := ⟨k - 1, by omega⟩
    rw [spec_TouchText.l0, if_pos (by omega), List.drop_eq_getElem_cons hli]
    by_cases h : i = 0
    · subst h
      rw [if_neg (by omega), body k xs (by omega) (by omega)]
      simp [logL, nB_append]
    · rw [if_pos (by omega), if_pos (by omega), body k _ (by omega) (by simp; omega)]
      have hb : (i == 0) = false := by simpa using h
      rw [hb]
      simp [logL, nB]
theorem spec_TouchText_f (l : List S35) (ok : ∀ t ∈ l, OkT t) {k : Nat} (hk : 18100 < k) : spec_TouchText.f k l = some (if l.length ≤ 6000 then ⟨(Lib.join (l.map ttL) [32]).toArray⟩ else ⟨#[]⟩) := by
  unfold spec_TouchText.f
  by_cases h : l.length ≤ 6000
  · rw [if_neg (by omega), if_pos h]
    have := spec_TouchText_l0 l h ok l.length k 0 [] (by omega) (by omega) (by simp)
    rw [show ((0 : Nat) : Int) = 0 from rfl] at this
    rw [this, List.nil_append, List.drop_zero, show (0 == 0) = true from rfl, logL_join, strOf_nB]
  · rw [if_pos (by omega), if_neg h]
theorem impl_TouchText_l0 (l : List S35) (hl : l.length ≤ 6000) (ok : ∀ t ∈ l, OkT t) (d : Nat) : ∀ (k i : Nat) (ys : List ByteArray), i + d = l.length → d < k → ys.length = l.length → (ys.take i).map (·.data.toList) = (l.map ttL).take i →
    impl_TouchText.l0 k ys l (l.length : Int) (i : Int) = some ⟨(Lib.join (l.map ttL) [32]).toArray⟩ := by
  induction d with
  | zero =>
    intro k i ys hi hk hy ht
    obtain ⟨k, rfl⟩ : ∃ q, k = q + 1 := ⟨k - 1, by omega⟩
    rw [List.take_of_length_le (by omega), List.take_of_length_le (by rw [List.length_map]; omega)] at ht
    have hlen := logL_length l true ok
    rw [logL_join] at hlen
    rw [impl_TouchText.l0, if_neg (by omega), strings_Join.f, if_pos (by omega), ht]
    have e32 : (⟨#[32]⟩ : ByteArray).data.toList = [32] := rfl
    rw [e32, if_pos (by omega), Option.bind_some]
  | succ d ih =>
    intro k i ys hi hk hy ht
    obtain ⟨k, rfl⟩ : ∃ q, k = q + 1 := ⟨k - 1, by omega⟩
    have hli : i < l.length := by omega
    have okt := ok _ (List.getElem_mem hli)
    have s1 := Lib.itoa_length_le l[i].f1 okt.1.1 okt.1.2
    have s2 := Lib.itoa_length_le l[i].f2 okt.2.1 okt.2.2
    have num1 : strconv_Itoa_25.f l[i].f1 = some ⟨(Lib.itoa l[i].f1).toArray⟩ := by unfold strconv_Itoa_25.f; rw [if_pos okt.1.1, if_pos okt.1.2]
    have num2 : strconv_Itoa_25.f l[i].f2 = some ⟨(Lib.itoa l[i].f2).toArray⟩ := by unfold strconv_Itoa_25.f; rw [if_pos okt.2.1, if_pos okt.2.2]
    have tail : ∀ c : UInt8, c = letN l[i] → ((strconv_Itoa_25.f l[i].f1).bind fun t107 => (if 1 + t107.size ≤ 9223372036854775807 then (if ((⟨#[c]⟩ : ByteArray) ++ t107).size + 1 ≤ 9223372036854775807 then ((strconv_Itoa_25.f l[i].f2).bind fun t108 => (if (((⟨#[c]⟩ : ByteArray) ++ t107) ++ (⟨#[58]⟩ : ByteArray)).size + t108.size ≤ 9223372036854775807 then (if (i : Int) < (ys.length : Int) then (impl_TouchText.l0 k (ys.set ((i : Int) : Int).toNat ((((⟨#[c]⟩ : ByteArray) ++ t107) ++ (⟨#[58]⟩ : ByteArray)) ++ t108)) l (l.length : Int) (wrap64 ((i : Int) + 1))) else (none)) else (none))) else (none)) else (none))) = some ⟨(Lib.join (l.map ttL) [32]).toArray⟩ := by
      intro c hc
      rw [num1, Option.bind_some, if_pos (by simp only [mk_size]; omega), if_pos (by simp only [size_app, mk_size, List.length_cons, List.length_nil]; omega), num2, Option.bind_some, if_pos (by simp only [size_app, mk_size, List.length_cons, List.length_nil]; omega), if_pos (by omega), w64 (by omega) (by omega), Int.toNat_natCast]
      refine ih k (i + 1) _ (by omega) (by omega) (by rw [List.length_set]; exact hy) ?_
      have e : (((⟨#[c]⟩ : ByteArray) ++ ⟨(Lib.itoa l[i].f1).toArray⟩) ++ (⟨#[58]⟩ : ByteArray)) ++ ⟨(Lib.itoa l[i].f2).toArray⟩ = ttS c l[i] := rfl
      rw [e, take_set_next _ _ _ (by omega), List.map_append, ht, List.take_succ_eq_append_getElem (l := l.map ttL) (by rw [List.length_map]; omega), List.getElem_map]
      congr 1
      rw [List.map_cons, List.map_nil, ttS_list, hc]
      rfl
    rw [impl_TouchText.l0, if_pos (by omega), if_pos (by omega), if_pos (by omega), rd_touch hli]
    by_cases e1 : l[i].f0 = 1
    · rw [if_pos e1]
      exact tail 114 (by unfold letN; rw [if_pos e1])
    · rw [if_neg e1]
      by_cases e2 : l[i].f0 = 2
      · rw [if_pos e2]
        exact tail 119 (by unfold letN; rw [if_neg e1, if_pos e2])
      · rw [if_neg e2]
        exact tail 63 (by unfold letN; rw [if_neg e1, if_neg e2])
theorem impl_TouchText_f (l : List S35) (ok : ∀ t ∈ l, OkT t) {k : Nat} (hk : 6001 < k) : impl_TouchText.f k l = some (if l.length ≤ 6000 then ⟨(Lib.join (l.map ttL) [32]).toArray⟩ else ⟨#[]⟩) := by
  unfold impl_TouchText.f
  by_cases h : l.length ≤ 6000
  · rw [if_neg (by omega), if_pos h, if_pos (by omega), if_pos (by omega)]
    exact impl_TouchText_l0 l h ok l.length k 0 _ (by omega) (by omega) (by simp) (by simp)
  · rw [if_pos (by omega), if_neg h]

theorem FnExactTouchText (l : List S53) (hl : l.length ≤ 9223372036854775807) (ok : ∀ t ∈ l, OkT (touchOf t)) : ∃ k, laws_FnExactTouchText.f k l = some true := by
  obtain ⟨K, hK⟩ : ∃ K : Nat, 2097200 < K := ⟨2097201, Nat.lt_succ_self _⟩
  refine ⟨K, ?_⟩
  unfold laws_FnExactTouchText.f laws_szTouchS.f
  rw [w64 (by omega) (by omega)]
  by_cases h : (1048576 : Int) - (l.length : Int) < 0
  · rw [if_pos h, Option.bind_some, if_pos (by decide)]
  · have okm : ∀ t ∈ l.map touchOf, OkT t := fun t ht => by
      obtain ⟨u, hu, rfl⟩ := List.mem_map.1 ht
      exact ok u hu
    have hlm : (l.map touchOf).length = l.length := List.length_map _
    have e : laws_eqTouchS.f K (l.map touchOf) (l.map touchOf) = some true := by
      unfold laws_eqTouchS.f
      rw [if_pos rfl]
      exact eqTouchS_l0 _ (by omega) (l.map touchOf).length K 0 (by omega) (by omega)
    rw [if_neg h, Option.bind_some, if_neg h, toTouchS_f l (by omega) (by omega), Option.bind_some, spec_TouchText_f _ okm (by omega), Option.bind_some, Option.bind_some, impl_TouchText_f _ okm (by omega), Option.bind_some, if_pos rfl, Option.bind_some, e, Option.bind_some, if_pos rfl]

end Go.Proofs.YtoceiaaigiflpaaDoor.Pure
