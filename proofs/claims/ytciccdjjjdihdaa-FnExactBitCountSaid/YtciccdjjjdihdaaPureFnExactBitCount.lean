/- The law FnExactBitCount holds of the program: whatever its arguments (of the kinds and sizes that the statement names), it answers true. -/
import Derived.Test.YtciccdjjjdihdaaPFnExactBitCountx1
import Derived.Test.YtciccdjjjdihdaaLib
import Derived.Test.YtciccdjjjdihdaaLibPop
set_option linter.unusedVariables false
set_option linter.unusedSimpArgs false
namespace Go.Proofs.Ytciccdjjjdihdaa.Pure
open Go.RowKit Go.Proofs.Ytciccdjjjdihdaa.PFnExactBitCount Go.Proofs.YtciccdjjjdihdaaW.PrintWords Go.Proofs.YtciccdjjjdihdaaW.PrintLast Go.Proofs.Ytciccdjjjdihdaa.L 

theorem OnesCount64_f {x : Nat} (hx : x < 2 ^ 64) : bits_OnesCount64.f (x : Int) = some ((popN x 64 : Nat) : Int) := by
  have a1 : Go.bits .and .u64 ((x : Int) / 2) 6148914691236517205 = ((x / 2 &&& rep8 85 8 : Nat) : Int) := by
    rw [show ((x : Int) / 2) = ((x / 2 : Nat) : Int) from by omega]
    exact and_nat (by omega) (by decide)
  have a2 : Go.bits .and .u64 (x : Int) 6148914691236517205 = ((x &&& rep8 85 8 : Nat) : Int) := and_nat hx (by decide)
  have l1 := s1_lt hx
  have b1 : IntKind.u64.wrap (((x / 2 &&& rep8 85 8 : Nat) : Int) + ((x &&& rep8 85 8 : Nat) : Int)) = ((s1 8 x : Nat) : Int) := by
    unfold s1 at l1 ⊢
    rw [u64_id (by omega) (by omega)]
    omega
  have a3 : Go.bits .and .u64 (((s1 8 x : Nat) : Int) / 4) 3689348814741910323 = ((s1 8 x / 4 &&& rep8 51 8 : Nat) : Int) := by
    rw [show (((s1 8 x : Nat) : Int) / 4) = ((s1 8 x / 4 : Nat) : Int) from by omega]
    exact and_nat (by omega) (by decide)
  have a4 : Go.bits .and .u64 ((s1 8 x : Nat) : Int) 3689348814741910323 = ((s1 8 x &&& rep8 51 8 : Nat) : Int) := and_nat l1 (by decide)
  have l2 := s2_lt (x := s1 8 x)
  have b2 : IntKind.u64.wrap (((s1 8 x / 4 &&& rep8 51 8 : Nat) : Int) + ((s1 8 x &&& rep8 51 8 : Nat) : Int)) = ((s2 8 (s1 8 x) : Nat) : Int) := by
    unfold s2 at l2 ⊢
    rw [u64_id (by omega) (by omega)]
    omega
  have b3 : Go.bits .and .u64 (IntKind.u64.wrap (((s2 8 (s1 8 x) : Nat) : Int) / 16 + ((s2 8 (s1 8 x) : Nat) : Int))) 1085102592571150095 = ((cnt8 8 x : Nat) : Int) := by
    rw [← s123 8 x]
    generalize s2 8 (s1 8 x) = u at *
    rw [u64_id (by omega) (by omega), show ((u : Int) / 16 + (u : Int)) = ((u / 16 + u : Nat) : Int) from by omega]
    exact and_nat (by omega) (by decide)
  unfold bits_OnesCount64.f
  rw [a1, a2, b1, a3, a4, b2, b3]
  obtain ⟨p0, p1, p2, p3, p4, p5, p6, p7, h0, h1, h2, h3, h4, h5, h6, h7, hc, hp⟩ := cnt8_all x
  obtain ⟨A, z, w, eA, ez, ew, ly, lA, lz, lw, hw⟩ := fold8 h0 h1 h2 h3 h4 h5 h6 h7 hc
  generalize cnt8 8 x = y at *
  clear hc h0 h1 h2 h3 h4 h5 h6 h7
  have c1 : IntKind.u64.wrap ((y : Int) + (y : Int) / 256) = (A : Int) := by
    rw [u64_id (by omega) (by omega)]; omega
  rw [c1]
  have c2 : IntKind.u64.wrap ((A : Int) + (A : Int) / 65536) = (z : Int) := by
    rw [u64_id (by omega) (by omega)]; omega
  rw [c2]
  have c3 : IntKind.u64.wrap ((z : Int) + (z : Int) / 4294967296) = (w : Int) := by
    rw [u64_id (by omega) (by omega)]; omega
  rw [c3, w64 (by omega) (by omega)]
  have e : Go.bits .and .i64 (w : Int) 127 = ((w % 128 : Nat) : Int) := by
    have := bits_mask .i64 63 (by decide) (fun m h h' => by rw [IntKind.wrap_i64]; omega) 7 (by decide) (w : Int) (Int.natCast_nonneg _) (by omega)
    rw [show ((2 : Int) ^ 7 - 1) = 127 from rfl] at this
    rw [this]
    simp
  rw [e, hw, hp]

theorem l03Bit_f {a : Nat} (ha : a < 2 ^ 64) {i : Nat} (hi : i < 64) : spec_l03Bit.f (a : Int) (i : Int) = some (a.testBit i) := by
  unfold spec_l03Bit.f
  rw [u64_id (Int.natCast_nonneg _) (by omega), if_pos (Int.natCast_nonneg _), bit_eq ha (by omega)]

theorem spec_BitCount_l0 {x : Nat} (hx : x < 2 ^ 64) (d : Nat) : ∀ k i, i + d = 64 → d < k → spec_BitCount.l0 k (x : Int) ((popN x i : Nat) : Int) (i : Int) = some ((popN x 64 : Nat) : Int) := by
  induction d with
  | zero =>
    intro k i hi hk
    obtain ⟨k, rfl⟩ : ∃ q, k = q + 1 := ⟨k - 1, by omega⟩
    obtain rfl : i = 64 := by omega
    rw [spec_BitCount.l0, if_neg (by omega)]
  | succ d ih =>
    intro k i hi hk
    obtain ⟨k, rfl⟩ : ∃ q, k = q + 1 := ⟨k - 1, by omega⟩
    have h := ih k (i + 1) (by omega) (by omega)
    have hp := popN_le x i
    rw [spec_BitCount.l0, if_pos (by omega), l03Bit_f hx (by omega), Option.bind_some, w64 (by omega) (by omega), w64 (by omega) (by omega), ← h, popN]
    cases x.testBit i <;> simp
theorem FnExactBitCount : laws_FnExactBitCount.Pure := by
  intro x hx
  obtain ⟨x, rfl, hx'⟩ := wf_u64 hx
  refine ⟨65, ?_⟩
  unfold laws_FnExactBitCount.f spec_BitCount.f impl_BitCount.f
  have := spec_BitCount_l0 hx' 64 65 0 rfl (by decide)
  rw [show ((popN x 0 : Nat) : Int) = 0 from rfl, show ((0 : Nat) : Int) = 0 from rfl] at this
  rw [this, OnesCount64_f hx']
  simp

end Go.Proofs.Ytciccdjjjdihdaa.Pure
