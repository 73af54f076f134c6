/- Plain lemmas on Go's fixed-width whole numbers, bits and byte strings, used by the laws of this seat; no program in sight, no conditions beyond those each lemma names. -/
import Derived.RowKit
import Derived.Laws.BitsLemmas
import Derived.Laws.BytesArg
import Derived.Test.YtoceiaaigiflpaaDoorWMore
import Derived.Test.YtoceiaaigiflpaaDoorWSized
set_option linter.unusedVariables false
set_option linter.unusedSimpArgs false
namespace Go.Proofs.YtoceiaaigiflpaaDoor.L
open Go.RowKit Go.Proofs.YtoceiaaigiflpaaDoorW.PrintWords

theorem wf_i64 {a : Int} (h : (Lit.int .i64 a).wf = true) : -9223372036854775808 ≤ a ∧ a ≤ 9223372036854775807 := by
  simp only [Lit.wf, IntKind.min, IntKind.max, IntKind.signed, IntKind.bits, Bool.and_eq_true, decide_eq_true_eq, if_true] at h
  omega
theorem wf_u64 {a : Int} (h : (Lit.int .u64 a).wf = true) : ∃ n : Nat, a = (n : Int) ∧ n < 2 ^ 64 := by
  simp only [Lit.wf, IntKind.min, IntKind.max, IntKind.signed, IntKind.bits, Bool.and_eq_true, decide_eq_true_eq] at h
  exact ⟨a.toNat, by simp at h; omega, by simp at h; omega⟩
theorem wf_u8 {a : Int} (h : (Lit.int .u8 a).wf = true) : 0 ≤ a ∧ a ≤ 255 := by
  simp only [Lit.wf, IntKind.min, IntKind.max, IntKind.signed, IntKind.bits, Bool.and_eq_true, decide_eq_true_eq] at h
  simp at h
  omega
theorem w64 {n : Int} (h : -9223372036854775808 ≤ n) (h' : n ≤ 9223372036854775807) : wrap64 n = n := by unfold wrap64; omega
theorem u64_wrap (n : Int) : IntKind.u64.wrap n = n % 18446744073709551616 := by simp [IntKind.wrap, IntKind.bits, IntKind.signed]
theorem u64_id {n : Int} (h : 0 ≤ n) (h' : n < 2 ^ 64) : IntKind.u64.wrap n = n := by rw [u64_wrap]; omega
theorem u8_id {n : Int} (h : 0 ≤ n) (h' : n < 256) : IntKind.u8.wrap n = n := by rw [IntKind.wrap_u8]; omega

/-! ### bits of 64-bit numbers -/
theorem and_nat {a b : Nat} (ha : a < 2 ^ 64) (hb : b < 2 ^ 64) : Go.bits .and .u64 (a : Int) (b : Int) = ((a &&& b : Nat) : Int) :=
  (bits_nat .u64 64 (Nat.le_refl _) (fun _ h h' => u64_id h h') a b ha hb).1
theorem or_nat {a b : Nat} (ha : a < 2 ^ 64) (hb : b < 2 ^ 64) : Go.bits .or .u64 (a : Int) (b : Int) = ((a ||| b : Nat) : Int) :=
  (bits_nat .u64 64 (Nat.le_refl _) (fun _ h h' => u64_id h h') a b ha hb).2
theorem xor_nat {a b : Nat} (ha : a < 2 ^ 64) (hb : b < 2 ^ 64) : Go.bits .xor .u64 (a : Int) (b : Int) = ((a ^^^ b : Nat) : Int) := by
  have ha' : a % 2 ^ 64 = a := Nat.mod_eq_of_lt ha
  have hb' : b % 2 ^ 64 = b := Nat.mod_eq_of_lt hb
  have hx : (BitVec.ofNat 64 a ^^^ BitVec.ofNat 64 b).toNat = a ^^^ b := by rw [BitVec.toNat_xor, BitVec.toNat_ofNat, BitVec.toNat_ofNat, ha', hb']
  simp only [Go.bits, BitVec.ofInt_natCast]
  show IntKind.u64.wrap (((BitVec.ofNat 64 a ^^^ BitVec.ofNat 64 b).toNat : Nat) : Int) = _
  rw [hx]
  have := Nat.xor_lt_two_pow ha hb
  exact u64_id (Int.natCast_nonneg _) (by exact_mod_cast this)
/-- a and not b, of 64 bits -/
def andN (a b : Nat) : Nat := (BitVec.ofNat 64 a &&& ~~~ BitVec.ofNat 64 b).toNat
theorem andN_lt (a b : Nat) : andN a b < 2 ^ 64 := BitVec.isLt _
theorem andNot_nat (a b : Nat) : Go.bits .andNot .u64 (a : Int) (b : Int) = ((andN a b : Nat) : Int) := by
  simp only [Go.bits, BitVec.ofInt_natCast, IntKind.bits]
  exact u64_id (Int.natCast_nonneg _) (by exact_mod_cast andN_lt a b)
theorem andN_bit (a b i : Nat) : (andN a b).testBit i = (decide (i < 64) && a.testBit i && !b.testBit i) := by
  unfold andN
  rw [BitVec.testBit_toNat, BitVec.getLsbD_and, BitVec.getLsbD_not, BitVec.getLsbD_ofNat, BitVec.getLsbD_ofNat]
  by_cases h : i < 64 <;> simp [h]
theorem lt_bit {a : Nat} (h : a < 2 ^ 64) {i : Nat} (hi : ¬ i < 64) : a.testBit i = false :=
  Nat.testBit_lt_two_pow (Nat.lt_of_lt_of_le h (Nat.pow_le_pow_right (by decide) (by omega)))
/-- two numbers of 64 bits with the same bits are the same -/
theorem eq_bits {a b : Nat} (ha : a < 2 ^ 64) (hb : b < 2 ^ 64) (h : ∀ i, i < 64 → a.testBit i = b.testBit i) : a = b := by
  apply Nat.eq_of_testBit_eq
  intro i
  by_cases hi : i < 64
  · exact h i hi
  · rw [lt_bit ha hi, lt_bit hb hi]
theorem shr_nat (a i : Nat) (hi : i ≤ 64) : shr .u64 (a : Int) (i : Int) = ((a / 2 ^ i : Nat) : Int) := by
  unfold shr
  rw [Int.toNat_natCast, show min i IntKind.u64.bits = i from by simp only [IntKind.bits]; omega]
  simp
theorem bit_val {a : Nat} (ha : a < 2 ^ 64) {i : Nat} (hi : i ≤ 64) : Go.bits .and .u64 (shr .u64 (a : Int) (i : Int)) 1 = (((a.testBit i).toNat : Nat) : Int) := by
  have hd : a / 2 ^ i < 2 ^ 64 := Nat.lt_of_le_of_lt (Nat.div_le_self _ _) ha
  rw [shr_nat a i hi, show (1 : Int) = ((1 : Nat) : Int) from rfl, and_nat hd (by decide), Nat.and_one_is_mod, Nat.toNat_testBit]
theorem bit_eq {a : Nat} (ha : a < 2 ^ 64) {i : Nat} (hi : i ≤ 64) : (Go.bits .and .u64 (shr .u64 (a : Int) (i : Int)) 1 == 1) = a.testBit i := by
  rw [bit_val ha hi]
  cases a.testBit i <;> rfl
theorem shl_one {i : Nat} (hi : i < 64) : shl .u64 1 (i : Int) = ((2 ^ i : Nat) : Int) := by
  unfold shl
  rw [Int.toNat_natCast, show min i IntKind.u64.bits = i from by simp only [IntKind.bits]; omega]
  have : 2 ^ i < 2 ^ 64 := Nat.pow_lt_pow_right (by decide) hi
  rw [Int.one_mul]
  rw [show (2 : Int) ^ i = ((2 ^ i : Nat) : Int) from by simp]
  exact u64_id (Int.natCast_nonneg _) (by exact_mod_cast this)
theorem or_pow {a i : Nat} (h : a < 2 ^ i) (hi : i < 64) : Go.bits .or .u64 (a : Int) ((2 ^ i : Nat) : Int) = ((a + 2 ^ i : Nat) : Int) := by
  have h2 : 2 ^ i < 2 ^ 64 := Nat.pow_lt_pow_right (by decide) hi
  rw [or_nat (by omega) h2]
  have := Nat.two_pow_add_eq_or_of_lt h 1
  rw [Nat.mul_one] at this
  rw [Nat.or_comm, ← this, Nat.add_comm]
theorem div_step (r i : Nat) : r / 2 ^ i = 2 * (r / 2 ^ (i + 1)) + (r.testBit i).toNat := by
  rw [Nat.toNat_testBit, Nat.pow_succ, ← Nat.div_div_eq_div_mul]
  omega
theorem pow_lt64 {i : Nat} (hi : i < 64) : 2 ^ i < 2 ^ 64 := Nat.pow_lt_pow_right (by decide) hi

/-- the number of a's bits where the mask has a 1 and of b's bits elsewhere -/
def selN (m a b : Nat) : Nat := (a &&& m) ||| andN b m
theorem selN_lt {m a b : Nat} (ha : a < 2 ^ 64) : selN m a b < 2 ^ 64 := Nat.or_lt_two_pow (Nat.lt_of_le_of_lt Nat.and_le_left ha) (andN_lt _ _)
theorem selN_bit {m a b i : Nat} (hi : i < 64) : (selN m a b).testBit i = (m.testBit i && a.testBit i || !m.testBit i && b.testBit i) := by
  unfold selN
  rw [Nat.testBit_or, Nat.testBit_and, andN_bit]
  simp only [hi, decide_true, Bool.true_and]
  cases m.testBit i <;> cases a.testBit i <;> cases b.testBit i <;> rfl

/-! ### lists of bytes -/
theorem rd_lt {xs : List Int} {i : Nat} (h : i < xs.length) : rd xs (i : Int) = xs[i] := by
  unfold rd; simp [List.getD_eq_getElem?_getD, h]
theorem rd_set (xs : List Int) (i j : Nat) (v : Int) (h : i < xs.length) : rd (xs.set i v) (j : Int) = if i = j then v else rd xs (j : Int) := by
  unfold rd
  simp only [List.getD_eq_getElem?_getD, Int.toNat_natCast, List.getElem?_set]
  by_cases e : i = j
  · subst e; simp [h]
  · simp [e]
theorem list_ext_rd {xs ys : List Int} (hl : xs.length = ys.length) (h : ∀ i : Nat, i < xs.length → rd xs (i : Int) = rd ys (i : Int)) : xs = ys := by
  refine List.ext_getElem hl (fun i h1 h2 => ?_)
  have := h i h1
  rwa [rd_lt h1, rd_lt h2] at this
/-- the list of a function's first values -/
def tab (f : Nat → Int) (n : Nat) : List Int := (List.range n).map f
theorem tab_length (f : Nat → Int) (n : Nat) : (tab f n).length = n := by simp [tab]
theorem tab_succ (f : Nat → Int) (n : Nat) : tab f (n + 1) = tab f n ++ [f n] := by
  unfold tab
  rw [List.range_succ, List.map_append]
  rfl
theorem rd_tab (f : Nat → Int) {n i : Nat} (h : i < n) : rd (tab f n) (i : Int) = f i := by
  rw [rd_lt (by rw [tab_length]; exact h)]
  simp [tab]
/-- a list that is written cell by cell with another one's cells -/
theorem set_copy (xs ys : List Int) (i : Nat) (hi : i < xs.length) (hl : ys.length = xs.length) (h : ys.take i = xs.take i) : (ys.set i (rd xs (i : Int))).take (i + 1) = xs.take (i + 1) := by
  rw [rd_lt hi, List.take_succ_eq_append_getElem (by simp; omega), List.take_succ_eq_append_getElem hi, List.take_set_of_le (Nat.le_refl _), h]
  simp
theorem bt_range (s : ByteArray) (i : Int) : 0 ≤ bt s i ∧ bt s i ≤ 255 := by
  unfold bt
  split
  · have := UInt8.toNat_lt (s[i.toNat]); omega
  · omega
/-- the bytes of a string are small letters, from a place on -/
def okB (s : ByteArray) (i : Nat) : Bool := decide (∀ j, j < s.size → i ≤ j → 97 ≤ bt s (j : Int) ∧ bt s (j : Int) ≤ 122)
/-- a word of the document's first chapter -/
def wordB (s : ByteArray) : Bool := decide (1 ≤ s.size ∧ s.size ≤ 32) && okB s 0
theorem okB_end {s : ByteArray} {i : Nat} (h : s.size ≤ i) : okB s i = true := by
  unfold okB; simp only [decide_eq_true_eq]; intro j h1 h2; omega
theorem okB_bad {s : ByteArray} {i : Nat} (h : i < s.size) (hb : bt s (i : Int) < 97 ∨ 122 < bt s (i : Int)) : okB s i = false := by
  unfold okB; simp only [decide_eq_false_iff_not]; intro hc; have := hc i h (Nat.le_refl _); omega
theorem okB_step {s : ByteArray} {i : Nat} (hb : 97 ≤ bt s (i : Int)) (hb' : bt s (i : Int) ≤ 122) : okB s i = okB s (i + 1) := by
  unfold okB
  rw [decide_eq_decide]
  constructor
  · intro h j h1 h2; exact h j h1 (by omega)
  · intro h j h1 h2
    by_cases e : i = j
    · subst e; exact ⟨hb, hb'⟩
    · exact h j h1 (by omega)
/-- the bits of the places of a string's first n bytes at which a byte stands -/
def peqN (s : ByteArray) (b : Int) : Nat → Nat
  | 0 => 0
  | n + 1 => peqN s b n + if bt s (n : Int) = b then 2 ^ n else 0
theorem peqN_lt (s : ByteArray) (b : Int) : ∀ n, peqN s b n < 2 ^ n
  | 0 => Nat.one_pos
  | n + 1 => by
    have := peqN_lt s b n
    unfold peqN
    rw [Nat.pow_succ]
    split <;> omega
theorem toNat_bool (b : Bool) : b.toNat = 0 ∨ b.toNat = 1 := by cases b <;> simp
end Go.Proofs.YtoceiaaigiflpaaDoor.L
/-- The printed rows name this lemma without its whole name; here it is found. -/
theorem Go.Proofs.YtoceiaaigiflpaaDoor.PrintWords.sized_ints {H : Type} {enc : Go.TypeId × Go.Value → H} {P : Go.Program} {W : Go.World} {base : Nat} {spare : Nat → Bool} {held : Bool} {t e : Go.TypeId} {k : Go.IntKind} {a : Option Go.Addr} {len cap : Nat} {d : Go.DataW H} {ps : List Go.MemPlace} {ts : List Go.TypeId} {ds : List (Go.DataW H)} {j : Nat}
    (hsz : (Go.DataW.weightsEach P ts ds).all (· ≤ Go.reachBytes) = true) (ht : ts[j]? = some t) (hd : ds[j]? = some d) (hu : P.underlying t = some (.slice e)) (he : P.underlying e = some (.int k)) (hc : P.cellsOf e = 1) {B : Nat} (hB : P.bytesOf e = B)
    (h : Go.DataW.Trod enc P W base spare held t (.slice a len cap) d ps) : len * B ≤ 140737488351232 :=
  Go.Proofs.YtoceiaaigiflpaaDoorW.PrintWords.sized_ints hsz ht hd hu he hc hB h
