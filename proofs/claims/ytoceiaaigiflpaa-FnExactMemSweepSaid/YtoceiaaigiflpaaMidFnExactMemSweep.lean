/- Reads of a memory of the call's own, what MemSweep makes, and the walk of the law: walks of this session's own beside the printed ones. -/
import Derived.Test.YtoceiaaigiflpaaQFnExactMemSweepx8
import Derived.Test.YtoceiaaigiflpaaPureFnExactMemSweep
set_option linter.unusedVariables false
set_option linter.unusedSimpArgs false
namespace Go.Proofs.Ytoceiaaigiflpaa.Pure
open Go.RowKit Go.Proofs.YtoceiaaigiflpaaW.PrintWords Go.Proofs.YtoceiaaigiflpaaW.PrintLast Go.Proofs.YtoceiaaigiflpaaW.PrintMore Go.Proofs.Ytoceiaaigiflpaa.PFnExactMemSweep Go.Proofs.Ytoceiaaigiflpaa.L
set_option maxHeartbeats 8000000 in
set_option maxRecDepth 100000 in
/-- The cells of a memory of the call's own are marked: the row that leads to them stays, and so does all that is none of theirs. -/
theorem markCellS_calls (K : Nat) (hK : 1048580 < K) (cs : List S50) (a : Int) (h0 : 0 ≤ a) (h1 : a ≤ 100000000) (hs : sumC cs ≤ 100000000) (hn : cs.length ≤ 1048576) (hbl : ∀ c ∈ cs, c.f0.length ≤ 1048576) (P0_ : Nat → Prop) (u : Value) (w0 w : World) (hB : Below w0.heap.size w0 w) (ho0 : Kd.S k50 50 w w0.heap.size P0_ u cs) :
    Calls Try.prog 31 #[u, .int .i64 a] w fun e w' => e = .returned (.int .i64 (a + (sumC cs : Int))) ∧ Kd.S k50 50 w' w0.heap.size P0_ u (markC a cs) ∧ Below w0.heap.size w0 w' ∧ Kept w w' P0_ := by
  obtain ⟨A, c, rfl⟩ := Kd.S_slice ho0
  have HO0 := Aside0.mk ho0
  have HB0 := Aside0.mk hB
  have hu50 := Try.underlying50
  clear ho0 hB
  go_enter Try.func31, Try.ntmps31
  go_wp2
  go_loopg [1, 5] (cs.length + 1) (fun kq v1 v5 w' => ∃ i : Nat, v1 = .int .i64 (a + (sumC (cs.take i) : Int)) ∧ v5 = .int .i64 (i : Int) ∧ Aside0 (i ≤ cs.length) ∧ Aside0 (kq + i = cs.length + 1) ∧ Aside0 (Kd.S k50 50 w' w0.heap.size P0_ (.slice A cs.length c) (midC a cs i)) ∧ Aside0 (Kept w w' P0_) ∧ Aside0 (Below w0.heap.size w0 w'))
  case atStart => exact ⟨0, by simp [sumC], rfl, ⟨Nat.zero_le _⟩, ⟨rfl⟩, ⟨by rw [midC_zero]; exact HO0.out⟩, ⟨Kept.refl w P0_⟩, ⟨HB0.out⟩⟩
  case round =>
    clear HO0 HB0
    obtain ⟨i, rfl, rfl, HI, HQ, HO, HK, HB⟩ := hrel
    cases gk with
    | zero => exact absurd HQ.out (by have := HI.out; omega)
    | succ k1 =>
      have hml := midC_length a cs i
      by_cases c3 : (i : Int) < (cs.length : Int)
      · have LI : i < cs.length := by omega
        have c4 : 0 ≤ (i : Int) := Int.natCast_nonneg i
        obtain ⟨g, cap, e, gb, gl, cl, HG⟩ := Kd.S_form HO.out (by omega)
        injection e with e1 e2 e3
        subst e1
        subst e3
        obtain ⟨oki, cc, hcl, hM, hcc, hoki, hH⟩ := Kd.S_lend HO.out z50 (i : Int) c4 (by omega)
        rw [Int.toNat_natCast, midC_at a LI] at hM
        obtain ⟨v0, rfl, hR⟩ := k50_openM hM
        obtain ⟨A2, c2, rfl⟩ := Kd.R_slice hR
        have hx0 : wr.cell? ⟨g, i, none⟩ = some (.slice A2 cs[i].f0.length c2) := by
          have h := hcc 0 _ rfl
          rw [show ((i : Int).toNat * k50.sz + 0) = i from by show ((i : Int).toNat * 1 + 0) = i; omega] at h
          exact h
        have hlen := hbl _ (List.getElem_mem LI)
        have htk := sumC_take cs i
        have hf : laws_markByteS.f K cs[i].f0 (a + (sumC (cs.take i) : Int)) = some (a + (sumC (cs.take i) : Int) + (cs[i].f0.length : Int), markL (a + (sumC (cs.take i) : Int)) cs[i].f0.length) := markByteS_f _ (by omega) (by omega) _ hlen (by omega)
        have hst : a + (sumC (cs.take i) : Int) + (cs[i].f0.length : Int) = a + (sumC (cs.take (i + 1)) : Int) := by rw [sumC_step LI]; omega
        rw [hst] at hf
        have LW : wrap64 ((i : Int) + 1) = ((i + 1 : Nat) : Int) := by rw [show ((i : Int) + 1) = ((i + 1 : Nat) : Int) from rfl]; unfold wrap64; omega
        have AI := Aside0.mk LI
        have AW := Aside0.mk LW
        have AR := Aside0.mk hR
        have AH := Aside0.mk hH
        have AF := Aside0.mk hf
        have AK := Aside0.mk hoki
        have hzl : cs[i].f0.length = cs[i].f0.length := rfl
        have c3b0 : decide ((i : Int) < (cs.length : Int)) = true := decide_eq_true c3
        have c3b1 : decide (i < cs.length) = true := decide_eq_true LI
        generalize hci : cs[i] = ci at *
        have AC := Aside0.mk (show ∀ h : i < cs.length, cs[i]'h = ci from fun _ => hci)
        clear LI LW hR hH hf hoki hM hcc hcl hlen htk hst hzl hci hml e2 gb gl cl HG
        replace c4 := eq_true c4
        replace c3 := eq_true c3
        go_wp2_with (go_at_call 20; refine (laws_markByteS.calls K oki (.slice A2 ci.f0.length c2) ci.f0 (a + (sumC (cs.take i) : Int)) _ _ w0 _ HB.out AR.out AF.out).mono ?_; rintro e w8 ⟨rfl, hR2, hB2, hK2⟩; have n0_ := Aside0.mk (Kd.H_back (Kd.H_kept AH.out hK2 (fun k _ hn => hn)) (k50_mkM w8 w0.heap.size oki ⟨markL (a + (sumC (cs.take i) : Int)) ci.f0.length⟩ ⟨AR.out.1, hR2.2⟩) (fun _ hk => hk)); have n1_ := Aside0.mk (HK.out.then_ hK2 (fun k hk => .inl (AK.out k hk).1)); have n2_ := Aside0.mk hB2; clear hR2 hB2 hK2)
        go_roundg k1
        case measure => have := HQ.out; omega
        case rel => exact ⟨i + 1, by first | rfl | (simp; done), by first | (rw [AW.out]; done) | (simp [AW.out]; done), ⟨AI.out⟩, ⟨by have := HQ.out; omega⟩, ⟨by have h := n0_.out; rw [Int.toNat_natCast] at h; rw [← midC_step a AI.out, AC.out AI.out]; exact h⟩, n1_, n2_⟩
      · have c3b0 : decide ((i : Int) < (cs.length : Int)) = false := decide_eq_false c3
        have LE : i = cs.length := by have := HI.out; omega
        have AE := Aside0.mk LE
        have c3n : decide (i < cs.length) = false := decide_eq_false (by omega)
        clear c3 LE hml
        go_wp2
        go_ret
        exact ⟨by have := AE.out; subst this; rw [List.take_length]; first | rfl | (simp; done), by have h := HO.out; rw [AE.out, midC_all] at h; exact h, HB.out, HK.out⟩
theorem R_back {α : Type} {d : Kd α} {e base : Nat} {ok ok' : Nat → Prop} {W W' : World} {v : Value} {xs ys : List α} (h : Kd.R d e W base ok v xs) (h' : Kd.R d e W' base ok' v ys) (hd : ∀ (w : World) (b : Nat) (o o' : Nat → Prop) (x : α) (c : List Value), d.M w b o x c → d.M w b o' x c) : Kd.R d e W' base ok v ys := by
  obtain ⟨_, inner, ho, hr⟩ := h'
  exact ⟨h.1, inner, ho, Reps.imp_ hr (fun p c hm => hd _ _ _ _ _ _ hm)⟩
theorem touch_free (w : World) (b : Nat) (o o' : Nat → Prop) (x : S59) (c : List Value) (h : k59.M w b o x c) : k59.M w b o' x c := h
set_option maxHeartbeats 8000000 in
set_option maxRecDepth 100000 in
/-- A memory of the call's own is marked. -/
theorem markMem_calls (K : Nat) (hK : 1048580 < K) (a0 a : Int) (cs : List S50) (ts : List S59) (h0 : 0 ≤ a) (h1 : a ≤ 100000000) (hs : sumC cs ≤ 100000000) (hn : cs.length ≤ 1048576) (hbl : ∀ c ∈ cs, c.f0.length ≤ 1048576) (ht : ts.length ≤ 1048576) (P0_ : Nat → Prop) (u1 u2 : Value) (w0 w : World) (hB : Below w0.heap.size w0 w) (ho1 : Kd.S k50 50 w w0.heap.size P0_ u1 cs) (ho2 : Kd.R k59 59 w w0.heap.size P0_ u2 ts) :
    Calls Try.prog 11 #[.agg #[.int .i64 a0, u1, u2], .int .i64 a] w fun e w' => e = .returned (.int .i64 (a + (sumC cs : Int) + 3 * (ts.length : Int))) ∧ Kd.S k50 50 w' w0.heap.size P0_ u1 (markC a cs) ∧ Kd.R k59 59 w' w0.heap.size P0_ u2 (markT (a + (sumC cs : Int)) ts.length) ∧ Below w0.heap.size w0 w' ∧ Kept w w' P0_ := by
  obtain ⟨A1, c1, rfl⟩ := Kd.S_slice ho1
  obtain ⟨A2, c2, rfl⟩ := Kd.R_slice ho2
  have hu25 := Try.underlying25
  obtain ⟨P1, hP1, hS1, hP1t⟩ : ∃ P1 : Nat → Prop, (∀ k, P1 k → P0_ k ∧ k < w.heap.size) ∧ Kd.S k50 50 w w0.heap.size P1 (.slice A1 cs.length c1) cs ∧ ∀ k, P1 k → ∃ q, q ∈ 50 :: k50.E ∧ ∃ cells, w.heap[k]? = some (.cells cells q (0, 0)) := ⟨_, fun k hk => ⟨hk.1, hk.2.2.1⟩, Kd.S_bound ho1, fun k hk => hk.2.2.2⟩
  obtain ⟨P2, hP2, hR2, hP2t⟩ : ∃ P2 : Nat → Prop, (∀ k, P2 k → P0_ k ∧ k < w.heap.size) ∧ Kd.R k59 59 w w0.heap.size P2 (.slice A2 ts.length c2) ts ∧ ∀ k, P2 k → ∃ q, q ∈ 59 :: k59.E ∧ ∃ cells, w.heap[k]? = some (.cells cells q (0, 0)) := ⟨_, fun k hk => ⟨hk.1, hk.2.2.1⟩, Kd.R_bound ho2, fun k hk => hk.2.2.2⟩
  have hne : ∀ k, P1 k → ¬ P2 k := fun k h1 h2 => by
    obtain ⟨q1, m1, x1, e1⟩ := hP1t k h1
    obtain ⟨q2, m2, x2, e2⟩ := hP2t k h2
    have hq : q1 = q2 := by
      have h := e1.symm.trans e2
      injection h with h
      injection h
    subst hq
    have m1' : q1 ∈ [50, 5] := m1
    have m2' : q1 ∈ [59] := m2
    simp at m1' m2'
    omega
  have HS1 := Aside0.mk hS1
  have HR2 := Aside0.mk hR2
  have HNE := Aside0.mk hne
  have HP1 := Aside0.mk hP1
  have HP2 := Aside0.mk hP2
  have HB := Aside0.mk hB
  have HF := Aside0.mk (markTouchS_f (a + (sumC cs : Int)) ts.length (by omega) (by omega) ht ts rfl (k := K) (by omega))
  have HM := Aside0.mk (show ∀ W W' : World, Below w0.heap.size w0 W → Kd.S k50 50 W w0.heap.size P1 (.slice A1 cs.length c1) cs → True from fun _ _ _ _ => trivial)
  clear hS1 hR2 hne hP1 hP2 hP1t hP2t ho1 ho2 hB HM
  go_enter Try.func11, Try.ntmps11
  go_wp2_with (first | ((with_reducible refine gate_dst (N := 2) rfl ?_); refine box_event ?hg (N := 2) ?hd (cs := #[.int .i64 a0, .slice A1 cs.length c1, .slice A2 ts.length c2]) (t := 25) ?hr ?_; (case hd => rfl); (case hg => rfl); (case hr => first | (go_simp; done) | (go_simp; rfl)); intro gb hg w9 hbox hb; have HX := Aside0.mk hb; have HG := Aside0.mk hg; have BK := Aside0.mk hbox; clear hb hg hbox; have hcz_0 : w9.cell? ⟨gb, 0, none⟩ = some (.int .i64 a0) := (blk_cell BK.out 0).trans rfl; have hcz_1 : w9.cell? ⟨gb, 1, none⟩ = some (.slice A1 cs.length c1) := (blk_cell BK.out 1).trans rfl; have hcz_2 : w9.cell? ⟨gb, 2, none⟩ = some (.slice A2 ts.length c2) := (blk_cell BK.out 2).trans rfl) | (go_at_call 31; refine (markCellS_calls K hK cs a h0 h1 hs hn hbl P1 (.slice A1 cs.length c1) w0 _ (below_step HB.out HX.out) (Kd.S_below HS1.out HX.out)).mono ?_; rintro e w10 ⟨rfl, hS, hB2, hK2⟩; have HS3 := Aside0.mk hS; have HB3 := Aside0.mk hB2; have HK3 := Aside0.mk hK2; have HR3 := Aside0.mk (Kd.R_kept (Kd.R_below HR2.out HX.out) hK2 (fun k h2 h1 => HNE.out k h1 h2)); have BK3 := Aside0.mk (blk_kept BK.out hK2 (fun h => by have := (HP1.out _ h).2; have := HG.out; omega)); clear hS hB2 hK2 hcz_0 hcz_1 hcz_2; have hcz_0 : w10.cell? ⟨gb, 0, none⟩ = some (.int .i64 a0) := (blk_cell BK3.out 0).trans rfl; have hcz_1 : w10.cell? ⟨gb, 1, none⟩ = some (.slice A1 cs.length c1) := (blk_cell BK3.out 1).trans rfl; have hcz_2 : w10.cell? ⟨gb, 2, none⟩ = some (.slice A2 ts.length c2) := (blk_cell BK3.out 2).trans rfl) | (go_at_call 32; refine (laws_markTouchS.calls K P2 (.slice A2 ts.length c2) ts (a + (sumC cs : Int)) _ _ w0 _ HB3.out HR3.out HF.out).mono ?_; rintro e w11 ⟨rfl, hR, hB2, hK2⟩; have HR4 := Aside0.mk (R_back HR3.out hR touch_free); have HB4 := Aside0.mk hB2; have HK4 := Aside0.mk hK2; have HS4 := Aside0.mk (Kd.S_kept HS3.out hK2 HNE.out); clear hR hB2 hK2))
  go_ret
  exact ⟨by first | rfl | (simp; done), Kd.S_mono HS4.out (fun k hk => (HP1.out k hk).1), Kd.R_mono HR4.out (fun k hk => (HP2.out k hk).1), HB4.out, ((Kept.of_below HX.out P0_).then_ HK3.out (fun k hk => .inl (HP1.out k hk).1)).then_ HK4.out (fun k hk => .inl (HP2.out k hk).1)⟩
theorem mem_new {w W w1 wA W' : World} {v1 v2 : Value} {a : Int} {cs : List S50} {ts : List S59} {gb : Nat} (hB : Below w.heap.size w W) (hb : Below W.heap.size W w1) (hS : Kd.S k50 50 w1 W.heap.size (fun _ => True) v1 cs) (hR : Kd.R k59 59 w1 W.heap.size (fun _ => True) v2 ts)
    (hg : gb = w1.heap.size) (hbox : wA.heap[gb]? = some (.cells #[.int .i64 0, .slice none 0 0, .slice none 0 0] 25 (0, 0))) (hbA : Below w1.heap.size w1 wA)
    (hW : W' = ((wA.setCell ⟨gb, 0, none⟩ (.int .i64 a)).setCell ⟨gb, 1, none⟩ v1).setCell ⟨gb, 2, none⟩ v2) :
    Below w.heap.size w W' ∧ Below W.heap.size W W' ∧ Kd.S k50 50 W' w.heap.size (fun k => W.heap.size ≤ k ∧ k < gb) v1 cs ∧ Kd.R k59 59 W' w.heap.size (fun k => W.heap.size ≤ k ∧ k < gb) v2 ts ∧ W'.heap[gb]? = some (.cells #[.int .i64 a, v1, v2] 25 (0, 0)) ∧ W.heap.size ≤ gb ∧ gb < W'.heap.size := by
  subst hW
  have hge : W.heap.size ≤ gb := by rw [hg]; exact hb.size
  have hgw : w.heap.size ≤ gb := Nat.le_trans hB.size hge
  have b1 := blk_put hbox 0 (.int .i64 a) rfl
  have b2 := blk_put b1 1 v1 rfl
  have b3 := blk_put b2 2 v2 rfl
  have hWA : Below W.heap.size W wA := below_step hb hbA
  have hwA : Below w.heap.size w wA := below_step (below_step hB hb) hbA
  have hS1 : Kd.S k50 50 w1 w.heap.size (fun k => W.heap.size ≤ k ∧ k < gb) v1 cs := Kd.S_lower (Kd.S_mono (Kd.S_bound hS) (fun k hk => ⟨hk.2.1, by rw [hg]; exact hk.2.2.1⟩)) hB.size
  have hR1 : Kd.R k59 59 w1 w.heap.size (fun k => W.heap.size ≤ k ∧ k < gb) v2 ts := Kd.R_lower (Kd.R_mono (Kd.R_bound hR) (fun k hk => ⟨hk.2.1, by rw [hg]; exact hk.2.2.1⟩)) hB.size
  have hS2 := Kd.S_below hS1 hbA
  have hR2 := Kd.R_below hR1 hbA
  refine ⟨below_set (below_set (below_set hwA hgw) hgw) hgw, below_set (below_set (below_set hWA hge) hge) hge, ?_, ?_, b3, hge, blk_lt b3⟩
  · exact Kd.S_far (Kd.S_far (Kd.S_far hS2 (fun k hk => Nat.ne_of_lt hk.2) _) (fun k hk => Nat.ne_of_lt hk.2) _) (fun k hk => Nat.ne_of_lt hk.2) _
  · exact Kd.R_far (Kd.R_far (Kd.R_far hR2 (fun k hk => Nat.ne_of_lt hk.2) _) (fun k hk => Nat.ne_of_lt hk.2) _) (fun k hk => Nat.ne_of_lt hk.2) _

set_option maxHeartbeats 8000000 in
set_option maxRecDepth 100000 in
theorem memRead_calls (okS : Nat → Prop) (a0 : Int) (cs : List S50) (ts : List S59) (at_ : Nat) (hat : at_ < cs.length) (hlg : ts.length ≤ 1000000) (g : Nat) (A1 : Option Addr) (c1 : Nat) (D : Option Addr) (d : Nat) (cx : S50) (hcx : cs.getD at_ z50 = cx) (w0 w : World) (hB : Below w0.heap.size w0 w) (hge : w0.heap.size ≤ g)
    (hbk : w.heap[g]? = some (.cells #[.int .i64 a0, .slice A1 cs.length c1, .slice D ts.length d] 25 (0, 0))) (hS : Kd.S k50 50 w w0.heap.size okS (.slice A1 cs.length c1) cs) (hR : Kd.R k59 59 w w0.heap.size (fun _ => True) (.slice D ts.length d) ts) :
    Calls Try.prog 43 #[.pointer (some ⟨g, 0, none⟩), .int .i64 (at_ : Int)] w fun e w' => ∃ (D2 : Option Addr) (d2 : Nat) (A2 : Option Addr) (c2 : Nat), e = .returned (.slice A2 cx.f0.length c2) ∧ w'.heap[g]? = some (.cells #[.int .i64 a0, .slice A1 cs.length c1, .slice D2 (ts.length + 1) d2] 25 (0, 0)) ∧ Kd.S k50 50 w' w0.heap.size okS (.slice A1 cs.length c1) cs ∧ Kd.R k59 59 w' w0.heap.size (fun _ => True) (.slice D2 (ts.length + 1) d2) (ts ++ [(⟨1, (at_ : Int), a0⟩ : S59)]) ∧ cx.f0.length ≤ c2 ∧ Kd.C (Kd.int .u8) w' A2 cx.f0.length cx.f0 ∧ Below w0.heap.size w0 w' ∧ (∀ (k : Nat) (ce : Array Value) (t : Nat), k ≠ g → t ≠ 59 → t ≠ 50 → w.heap[k]? = some (.cells ce t (0, 0)) → w'.heap[k]? = some (.cells ce t (0, 0))) := by
  have hu25 := Try.underlying25
  have hu50 := Try.underlying50
  obtain ⟨gr, cap, e, gb, gl, cl, HG0⟩ := Kd.S_form hS (by omega)
  injection e with e1 e2 e3
  subst e1
  subst e3
  have HB := Aside0.mk hB
  have BK := Aside0.mk hbk
  have HS := Aside0.mk hS
  have HR := Aside0.mk hR
  have HLG := Aside0.mk hlg
  have HGE := Aside0.mk hge
  have HAT := Aside0.mk hat
  have HO : Aside0 (∀ (k : Nat) (ce : Array Value) (t : Nat), k ≠ g → t ≠ 59 → t ≠ 50 → w.heap[k]? = some (.cells ce t (0, 0)) → w.heap[k]? = some (.cells ce t (0, 0))) := ⟨fun _ _ _ _ _ _ h => h⟩
  clear hB hbk hS hR hlg hge hat e2 gb gl cl HG0
  go_enter Try.func43, Try.ntmps43
  try go_wp2
  have n0_ := Aside0.mk (blk_drew BK.out)
  have n1_ := Aside0.mk (below_drew1 HB.out)
  have n2_ := Aside0.mk (Kd.S_drew HS.out)
  have n3_ := Aside0.mk (Kd.R_drew HR.out)
  have n4_ := Aside0.mk (fun (k : Nat) (ce : Array Value) (t : Nat) (hk : k ≠ g) (ht : t ≠ 59) (hc : t ≠ 50) h => blk_drew (HO.out k ce t hk ht hc h))
  clear BK HB HS HR HO
  have BK := n0_
  have HB := n1_
  have HS := n2_
  have HR := n3_
  have HO := n4_
  clear n0_ n1_ n2_ n3_ n4_
  refine start_ (n := 16) (S := fun w' => w'.cell? ⟨g, 0, none⟩ = some (.int .i64 a0) ∧ w'.cell? ⟨g, 1, none⟩ = some (.slice (some ⟨gr, 0, none⟩) cs.length c1) ∧ w'.cell? ⟨g, 2, none⟩ = some (.slice D ts.length d)) (ds := [15]) #[false, false, false, false, false, false, false, false, false, false, false, false, false, false, false, false] (by kernel_rfl) rfl rfl ⟨(blk_cell BK.out 0).trans rfl, (blk_cell BK.out 1).trans rfl, (blk_cell BK.out 2).trans rfl⟩ (fun hHeld => ?_)
  generalize w.drew = w5 at BK HB HS HR HO hHeld ⊢
  refine pure_ (i := 0) (N := some 5) (v := ?_) (a' := ?_) #[true, false, false, false, false, false, false, false, false, false, false, false, false, false, false, false] rfl rfl (by kernel_rfl) (fun _ _ _ h => h) (Or.inl ⟨by rfl, ?_⟩) ?_ ?_
  rotate_left
  · intro w'
    go_simp
    with_reducible rfl
  rotate_left
  · simp only [Act.put, List.setIfInBounds_toArray, List.set_cons_zero, List.set_cons_succ, i64_w, i32_w]
    rfl
  refine pure_ (i := 1) (N := some 6) (v := ?_) (a' := ?_) #[true, true, false, false, false, false, false, false, false, false, false, false, false, false, false, false] rfl rfl (by kernel_rfl) (fun _ _ _ h => h) (Or.inl ⟨by rfl, ?_⟩) ?_ ?_
  rotate_left
  · intro w'
    go_simp
    with_reducible rfl
  rotate_left
  · simp only [Act.put, List.setIfInBounds_toArray, List.set_cons_zero, List.set_cons_succ, i64_w, i32_w]
    rfl
  refine pure_ (i := 2) (N := some 7) (v := ?_) (a' := ?_) #[true, true, true, false, false, false, false, false, false, false, false, false, false, false, false, false] rfl rfl (by kernel_rfl) (fun _ _ _ h => h) (Or.inl ⟨by rfl, ?_⟩) ?_ ?_
  rotate_left
  · intro w'
    go_simp
    with_reducible rfl
  rotate_left
  · simp only [Act.put, List.setIfInBounds_toArray, List.set_cons_zero, List.set_cons_succ, i64_w, i32_w]
    rfl
  refine pure_ (i := 3) (N := some 8) (v := ?_) (a' := ?_) #[true, true, true, true, false, false, false, false, false, false, false, false, false, false, false, false] rfl rfl (by kernel_rfl) (fun _ _ _ h => h) (Or.inl ⟨by rfl, ?_⟩) ?_ ?_
  rotate_left
  · intro w'
    go_simp
    with_reducible rfl
  rotate_left
  · simp only [Act.put, List.setIfInBounds_toArray, List.set_cons_zero, List.set_cons_succ, i64_w, i32_w]
    rfl
  refine pure_ (i := 5) (N := some 10) (v := ?_) (a' := ?_) #[true, true, true, true, false, true, false, false, false, false, false, false, false, false, false, false] rfl rfl (by kernel_rfl) (fun _ _ _ h => h) (Or.inl ⟨by rfl, ?_⟩) ?_ ?_
  rotate_left
  · intro w'
    go_simp
    with_reducible rfl
  rotate_left
  · simp only [Act.put, List.setIfInBounds_toArray, List.set_cons_zero, List.set_cons_succ, i64_w, i32_w]
    rfl
  refine pure_ (i := 6) (N := some 11) (v := ?_) (a' := ?_) #[true, true, true, true, false, true, true, false, false, false, false, false, false, false, false, false] rfl rfl (by kernel_rfl) (fun _ _ _ h => h) (Or.inl ⟨by rfl, ?_⟩) ?_ ?_
  rotate_left
  · intro w'
    go_simp
    with_reducible rfl
  rotate_left
  · simp only [Act.put, List.setIfInBounds_toArray, List.set_cons_zero, List.set_cons_succ, i64_w, i32_w]
    rfl
  refine pure_ (i := 7) (N := some 12) (v := ?_) (a' := ?_) #[true, true, true, true, false, true, true, true, false, false, false, false, false, false, false, false] rfl rfl (by kernel_rfl) (fun _ _ _ h => h) (Or.inl ⟨by rfl, ?_⟩) ?_ ?_
  rotate_left
  · intro w'
    go_simp
    with_reducible rfl
  rotate_left
  · simp only [Act.put, List.setIfInBounds_toArray, List.set_cons_zero, List.set_cons_succ, i64_w, i32_w]
    rfl
  refine pure_ (i := 8) (N := some 13) (v := ?_) (a' := ?_) #[true, true, true, true, false, true, true, true, true, false, false, false, false, false, false, false] rfl rfl (by kernel_rfl) (fun _ _ _ h => h) (Or.inl ⟨by rfl, ?_⟩) ?_ ?_
  rotate_left
  · intro w'
    go_simp
    with_reducible rfl
  rotate_left
  · simp only [Act.put, List.setIfInBounds_toArray, List.set_cons_zero, List.set_cons_succ, i64_w, i32_w]
    rfl
  refine take_ (i := 4) (N := some 9) (v := ?_) (a' := ?_) #[true, true, true, true, true, true, true, true, true, false, false, false, false, false, false, false] rfl rfl (by kernel_rfl) (fun _ _ _ h => h) (Or.inl ⟨by rfl, ?_⟩) hHeld ?_ ?_
  rotate_left
  · rintro w' ⟨s0, s1, s2⟩
    go_simp
    with_reducible rfl
  rotate_left
  · simp only [Act.put, List.setIfInBounds_toArray, List.set_cons_zero, List.set_cons_succ, i64_w, i32_w]
    rfl
  refine take_ (i := 9) (N := some 14) (v := ?_) (a' := ?_) #[true, true, true, true, true, true, true, true, true, true, false, false, false, false, false, false] rfl rfl (by kernel_rfl) (fun _ _ _ h => h) (Or.inl ⟨by rfl, ?_⟩) hHeld ?_ ?_
  rotate_left
  · rintro w' ⟨s0, s1, s2⟩
    go_simp
    with_reducible rfl
  rotate_left
  · simp only [Act.put, List.setIfInBounds_toArray, List.set_cons_zero, List.set_cons_succ, i64_w, i32_w]
    rfl
  refine pure_ (i := 10) (N := some 15) (v := ?_) (a' := ?_) #[true, true, true, true, true, true, true, true, true, true, true, false, false, false, false, false] rfl rfl (by kernel_rfl) (fun _ _ _ h => h) (Or.inl ⟨by rfl, ?_⟩) ?_ ?_
  rotate_left
  · intro w'
    go_simp
    with_reducible rfl
  rotate_left
  · simp only [Act.put, List.setIfInBounds_toArray, List.set_cons_zero, List.set_cons_succ, i64_w, i32_w]
    rfl
  refine one_ (i := 11) (N := some 16) #[true, true, true, true, true, true, true, true, true, true, true, true, false, false, false, false] rfl rfl (by kernel_rfl) (by decide) (fun K hK => ?_)
  refine value_ (w1 := ?_) (v := ?_) (by rfl) rfl ?_ ?_
  rotate_left 2
  · go_simp
    constructor
    · rfl
    · rfl
  refine hK.out _ _ ⟨(blk_cell (blk_alloc BK.out _) 0).trans rfl, (blk_cell (blk_alloc BK.out _) 1).trans rfl, (blk_cell (blk_alloc BK.out _) 2).trans rfl⟩ (fun hHeld => ?_)
  clear hK K
  refine norm_ (a' := ?_) ?_ ?_
  rotate_left
  · show Act.put _ (some 16) _ = _
    simp only [Act.put, List.setIfInBounds_toArray, List.set_cons_zero, List.set_cons_succ, i64_w, i32_w]
    rfl
  refine one_ (i := 12) (N := some 17) #[true, true, true, true, true, true, true, true, true, true, true, true, true, false, false, false] rfl rfl (by kernel_rfl) (by decide) (fun K hK => ?_)
  refine Kd.R_append_step k59 (w0 := w0) w0.heap.size (by rfl) (.tmp 9) (.tmp 16) 23 59 (.agg #[(.int .i64 0), (.int .i64 0), (.int .i64 0)]) 24 rfl Try.underlying23 info59 rfl (by decide) (by omega) (.slice D ts.length d) ts (⟨1, (at_ : Int), a0⟩ : S59) [.int .i64 1, .int .i64 (at_ : Int), .int .i64 a0] (fun _ => True) (fun _ => False) rfl rfl ?aP (fun _ h => h.elim) ?aF ?aO ?aB ?aS ?aL ?_
  (case aP => exact k59_mkM _ _ _ (⟨1, (at_ : Int), a0⟩ : S59))
  (case aF => exact (fun _ _ => trivial))
  (case aO => exact (by (with_reducible repeat (first | apply Kd.R_alloc | apply Kd.R_drewN | apply Kd.R_drew)); exact HR.out))
  (case aB => exact (by repeat (first | (with_reducible first | exact HB.out | apply below_alloc | apply pw_below_drewN | apply below_drew1) | exact HB.out)))
  (case aS => exact (below_size (by repeat (first | (with_reducible first | exact HB.out | apply below_alloc | apply pw_below_drewN | apply below_drew1) | exact HB.out))))
  (case aL => have := HLG.out; omega)
  intro v200 w28 ho hb hg hat
  obtain ⟨D2, d2, eo2⟩ := Kd.R_slice ho
  subst eo2
  have n0_ := Aside0.mk (Kd.S_over' HS.out (Kd.R_typed HR.out) (by decide) hg)
  have n1_ := Aside0.mk (blk_grown BK.out hg (Kd.R_ne HR.out BK.out (by decide)))
  have n2_ := Aside0.mk hb
  have n3_ : Aside0 (Kd.R k59 59 w28 w0.heap.size (fun _ => True) (.slice D2 (ts.length + 1) d2) (ts ++ [(⟨1, (at_ : Int), a0⟩ : S59)])) := ⟨by have h_ := ho; rw [List.length_append] at h_; exact h_⟩
  have n4_ := Aside0.mk (fun (k : Nat) (ce : Array Value) (t : Nat) (hk : k ≠ g) (ht : t ≠ 59) (hc : t ≠ 50) h => blk_grown (HO.out k ce t hk ht hc h) hg (Kd.R_ne HR.out (HO.out k ce t hk ht hc h) (Ne.symm ht)))
  clear HS BK HB HR HO ho hb hg hat
  have HS := n0_
  have BK := n1_
  have HB := n2_
  have HR := n3_
  have HO := n4_
  clear n0_ n1_ n2_ n3_ n4_
  simp only [List.length_append, List.length_singleton]
  refine hK.out _ _ ⟨(blk_cell BK.out 0).trans rfl, (blk_cell BK.out 1).trans rfl, (blk_cell BK.out 2).trans rfl⟩ (fun hHeld => ?_)
  clear hK K
  refine norm_ (a' := ?_) ?_ ?_
  rotate_left
  · show Act.put _ (some 17) _ = _
    simp only [Act.put, List.setIfInBounds_toArray, List.set_cons_zero, List.set_cons_succ, i64_w, i32_w]
    rfl
  refine pure_ (i := 13) (N := some 18) (v := ?_) (a' := ?_) #[true, true, true, true, true, true, true, true, true, true, true, true, true, true, false, false] rfl rfl (by kernel_rfl) (fun _ _ _ h => h) (Or.inl ⟨by rfl, ?_⟩) ?_ ?_
  rotate_left
  · intro w'
    go_simp
    with_reducible rfl
  rotate_left
  · simp only [Act.put, List.setIfInBounds_toArray, List.set_cons_zero, List.set_cons_succ, i64_w, i32_w]
    rfl
  refine pure_ (i := 14) (N := some 19) (v := ?_) (a' := ?_) #[true, true, true, true, true, true, true, true, true, true, true, true, true, true, true, false] rfl rfl (by kernel_rfl) (fun _ _ _ h => h) (Or.inl ⟨by rfl, ?_⟩) ?_ ?_
  rotate_left
  · intro w'
    go_simp
    with_reducible rfl
  rotate_left
  · simp only [Act.put, List.setIfInBounds_toArray, List.set_cons_zero, List.set_cons_succ, i64_w, i32_w]
    rfl
  refine last_ (i := 15) (N := none) #[true, true, true, true, true, true, true, true, true, true, true, true, true, true, true, true] rfl rfl (by kernel_rfl) (by decide) (fun K hK => ?_)
  have hs30 : w28.cell? ⟨g, 2, none⟩ = some (.slice D ts.length d) := (blk_cell BK.out 2).trans rfl
  have hfs30 := blk_frozen BK.out 2
  refine skip_ (w1 := ?_) (by rfl) rfl ?_ ?_
  rotate_left
  · go_simp
    rfl
  refine hK.out _ _ ?_
  clear hK K
  refine done_ (by kernel_rfl) ?_
  have n0_ := Aside0.mk (blk_put BK.out 2 (.slice D2 (ts.length + 1) d2) rfl)
  have n1_ := Aside0.mk (below_set HB.out HGE.out (j := 2) (v := .slice D2 (ts.length + 1) d2))
  have n2_ := Aside0.mk (Kd.S_set HS.out BK.out (by decide) 2 (.slice D2 (ts.length + 1) d2))
  have n3_ := Aside0.mk (Kd.R_mono (Kd.R_far (p := ⟨g, 2, none⟩) (Kd.R_types HR.out BK.out (by decide)) (fun _ hk => hk.2) (.slice D2 (ts.length + 1) d2)) (fun _ h_ => h_.1))
  have n4_ := Aside0.mk (fun (k : Nat) (ce : Array Value) (t : Nat) (hk : k ≠ g) (ht : t ≠ 59) (hc : t ≠ 50) h => blk_far (HO.out k ce t hk ht hc h) hk (p := ⟨g, 2, none⟩) (.slice D2 (ts.length + 1) d2))
  clear BK HB HS HR HO
  generalize w28.setCell ⟨g, 2, none⟩ (.slice D2 (ts.length + 1) d2) = w6 at n0_ n1_ n2_ n3_ n4_ ⊢
  have BK : Aside0 (w6.heap[g]? = some (.cells #[.int .i64 a0, .slice (some ⟨gr, 0, none⟩) cs.length c1, .slice D2 (ts.length + 1) d2] 25 (0, 0))) := ⟨n0_.out⟩
  have HB := n1_
  have HS := n2_
  have HR := n3_
  have HO := n4_
  clear n0_ n1_ n2_ n3_ n4_
  obtain ⟨oki, cc, hcl, hM, hcc, hoki, hH⟩ := Kd.S_lend HS.out z50 (at_ : Int) (Int.natCast_nonneg _) (by have := HAT.out; omega)
  rw [Int.toNat_natCast, hcx] at hM
  obtain ⟨v0, rfl, hR0⟩ := k50_openM hM
  obtain ⟨A2, c2, rfl⟩ := Kd.R_slice hR0
  have hx0 : w6.cell? ⟨gr, at_, none⟩ = some (.slice A2 cx.f0.length c2) := by
    have h := hcc 0 _ rfl
    rw [show ((at_ : Int).toNat * k50.sz + 0) = at_ from by show ((at_ : Int).toNat * 1 + 0) = at_; omega] at h
    exact h
  have HRD := Aside0.mk (Kd.R_reads' hR0)
  have hcz_1 : w6.cell? ⟨g, 1, none⟩ = some (.slice (some ⟨gr, 0, none⟩) cs.length c1) := (blk_cell BK.out 1).trans rfl
  have p1 : (0 ≤ (at_ : Int)) = True := eq_true (Int.natCast_nonneg _)
  have p2 : ((at_ : Int) < (cs.length : Int)) = True := eq_true (by have := HAT.out; omega)
  have p3 : (at_ < cs.length) = True := eq_true HAT.out
  clear hM hR0 hcc hcl hoki hH
  clear hcx
  go_wp2
  go_ret
  exact ⟨D2, d2, A2, c2, by first | rfl | (simp; done), BK.out, HS.out, HR.out, HRD.out.2.1, HRD.out.2.2, HB.out, HO.out⟩

theorem row_past_read {W W' : World} {base g : Nat} {v : Value} {xs : List Int} {cs0 : Array Value} (h : Kd.R (Kd.int .u8) 5 W base (fun _ => True) v xs) (hg : W.heap[g]? = some (.cells cs0 25 (0, 0)))
    (hK : ∀ (k : Nat) (ce : Array Value) (t : Nat), k ≠ g → t ≠ 59 → t ≠ 50 → W.heap[k]? = some (.cells ce t (0, 0)) → W'.heap[k]? = some (.cells ce t (0, 0))) : Kd.R (Kd.int .u8) 5 W' base (fun _ => True) v xs := by
  refine Kd.R_mono (Kd.R_step (Kd.R_bound h) (fun k hk hlt => ?_)) (fun _ _ => trivial)
  obtain ⟨_, _, _, q, hq, ce, hce⟩ := hk
  have hq5 : q = 5 := by
    have m : q ∈ [5] := hq
    simpa using m
  subst hq5
  have hne : k ≠ g := fun e => by
    subst e
    have e2 := hce.symm.trans hg
    injection e2 with e2
    injection e2 with _ e3
    exact absurd e3 (by decide)
  exact (hK k ce 5 hne (by decide) (by decide) hce).trans hce.symm
set_option maxHeartbeats 8000000 in
set_option maxRecDepth 100000 in
theorem implMemSweep_calls (a0 : Int) (A1 : Option Addr) (c1 : Nat) (cs : List S50) (A2 : Option Addr) (c2 : Nat) (ts : List S59) (w : World) (hr1 : Kd.C k50 w A1 cs.length cs) (hc1 : cs.length ≤ c1) (hr2 : Kd.C k59 w A2 ts.length ts) (hc2 : ts.length ≤ c2) :
    Calls Try.prog 23 #[.agg #[.int .i64 a0, .slice A1 cs.length c1, .slice A2 ts.length c2]] w fun e w' => ∃ v1_ v2_ v3_ : Value, e = .returned (.tuple #[.agg #[.int .i64 (memSweepF a0 cs ts).1, v1_, v2_], v3_, .int .i64 (memSweepF a0 cs ts).2.2.2.2]) ∧ Kd.S k50 50 w' w.heap.size (fun k_ => some k_ ≠ (v3_ : Value).ownBlock) v1_ (memSweepF a0 cs ts).2.1 ∧ Kd.R k59 59 w' w.heap.size (fun _ => True) v2_ (memSweepF a0 cs ts).2.2.1 ∧ Kd.R (Kd.int .u8) 5 w' w.heap.size (fun _ => True) v3_ (memSweepF a0 cs ts).2.2.2.1 ∧ Below w.heap.size w w' := by
  have hu25 := Try.underlying25
  have HR1 := Aside0.mk hr1
  have HC1 := Aside0.mk hc1
  have HR2 := Aside0.mk hr2
  have HC2 := Aside0.mk hc2
  have HB := Aside0.mk (Below.refl w.heap.size w)
  clear hr1 hc1 hr2 hc2
  by_cases hm : memB a0 cs ts = true
  · have hb := memB_bounds hm
    have AM := Aside0.mk (impl_isMem_f a0 cs ts (k := 6201) (by omega))
    rw [hm] at AM
    have hw64 : wrap64 ((ts.length : Int) + (cs.length : Int)) = (ts.length : Int) + (cs.length : Int) := w64 (by omega) (by omega)
    by_cases hs : ts.length + cs.length > 6000
    · have hsb : decide (wrap64 ((ts.length : Int) + (cs.length : Int)) > 6000) = true := by rw [hw64]; exact decide_eq_true (by omega)
      clear hb hw64
      have hF : memSweepF a0 cs ts = (0, [], [], [], 4) := by unfold memSweepF; rw [if_pos hm, if_pos hs]
      rw [hF]
      clear hF hs
      go_enter Try.func23, Try.ntmps23
      go_wp2_with (first | ((with_reducible refine gate_dst (N := 1) rfl ?_); (try (refine gate_guard (by rfl) ?_; dsimp only)); refine box_event ?hg (N := 1) ?hd (cs := #[.int .i64 a0, .slice A1 cs.length c1, .slice A2 ts.length c2]) (t := 25) ?hr ?_; (case hd => rfl); (case hg => rfl); (case hr => first | (go_simp; done) | (go_simp; rfl)); intro gb2 hg w62 hbox hb; have BK2 := Aside0.mk (hbox); have GE2 := Aside0.mk ((by rw [hg]; exact (below_size (by repeat first | exact HB.out | apply below_alloc | apply pw_below_drewN | apply below_drew1)) : w.heap.size ≤ gb2)); replace HB := Aside0.mk (below_step (by repeat first | exact HB.out | apply below_alloc | apply pw_below_drewN | apply below_drew1) hb); clear hb hbox hg; have hcz2_0 : w62.cell? ⟨gb2, 0, none⟩ = some (.int .i64 a0) := (blk_cell BK2.out 0).trans rfl; have hcz2_1 : w62.cell? ⟨gb2, 1, none⟩ = some (.slice A1 cs.length c1) := (blk_cell BK2.out 1).trans rfl; have hcz2_2 : w62.cell? ⟨gb2, 2, none⟩ = some (.slice A2 ts.length c2) := (blk_cell BK2.out 2).trans rfl; have hfz2_0 := blk_frozen BK2.out 0; have hfz2_1 := blk_frozen BK2.out 1; have hfz2_2 := blk_frozen BK2.out 2) | ((with_reducible refine gate_dst (N := 2) rfl ?_); (try (refine gate_guard (by rfl) ?_; dsimp only)); refine box_event ?hg (N := 2) ?hd (cs := #[.int .i64 0, .slice none 0 0, .slice none 0 0]) (t := 25) ?hr ?_; (case hd => rfl); (case hg => rfl); (case hr => first | (go_simp; done) | (go_simp; rfl)); intro gb3 hg w63 hbox hb; have BK3 := Aside0.mk (hbox); have GE3 := Aside0.mk ((by rw [hg]; exact (below_size (by repeat first | exact HB.out | apply below_alloc | apply pw_below_drewN | apply below_drew1)) : w.heap.size ≤ gb3)); have NB2_3 := Aside0.mk ((by rw [hg]; exact Nat.ne_of_lt (blk_lt (g := gb2) (o := .cells #[.int .i64 a0, .slice A1 cs.length c1, .slice A2 ts.length c2] 25 (0, 0)) (by repeat first | exact BK2.out | apply blk_drewN | apply blk_drew | apply blk_alloc)) : gb2 ≠ gb3)); have NB3_2 := Aside0.mk (NB2_3.out.symm); replace BK2 := Aside0.mk (blk_below (g := gb2) (o := .cells #[.int .i64 a0, .slice A1 cs.length c1, .slice A2 ts.length c2] 25 (0, 0)) (by repeat first | exact BK2.out | apply blk_drewN | apply blk_drew | apply blk_alloc) hb); replace HB := Aside0.mk (below_step (by repeat first | exact HB.out | apply below_alloc | apply pw_below_drewN | apply below_drew1) hb); clear hb hbox hg; have hnb2_3 := NB2_3.out; have hnc3_2 := NB3_2.out; have hcz3_0 : w63.cell? ⟨gb3, 0, none⟩ = some (.int .i64 0) := (blk_cell BK3.out 0).trans rfl; have hcz3_1 : w63.cell? ⟨gb3, 1, none⟩ = some (.slice none 0 0) := (blk_cell BK3.out 1).trans rfl; have hcz3_2 : w63.cell? ⟨gb3, 2, none⟩ = some (.slice none 0 0) := (blk_cell BK3.out 2).trans rfl; have hfz3_0 := blk_frozen BK3.out 0; have hfz3_1 := blk_frozen BK3.out 1; have hfz3_2 := blk_frozen BK3.out 2; have hcy2_0 : w63.cell? ⟨gb2, 0, none⟩ = some (.int .i64 a0) := (blk_cell BK2.out 0).trans rfl; have hcy2_1 : w63.cell? ⟨gb2, 1, none⟩ = some (.slice A1 cs.length c1) := (blk_cell BK2.out 1).trans rfl; have hcy2_2 : w63.cell? ⟨gb2, 2, none⟩ = some (.slice A2 ts.length c2) := (blk_cell BK2.out 2).trans rfl; have hfy2_0 := blk_frozen BK2.out 0; have hfy2_1 := blk_frozen BK2.out 1; have hfy2_2 := blk_frozen BK2.out 2) | ((with_reducible refine gate_callee (f := 39) rfl ?_); refine goesL_ (some 10) rfl rfl Try.func39 (by kernel_rfl) rfl #[.agg #[.int .i64 a0, .slice A1 cs.length c1, .slice A2 ts.length c2]] rfl (by (try simp only [List.map_toArray, List.map_cons, List.map_nil]); first | done | rfl) ?_; (with_reducible refine (impl_isMem.calls 6201 a0 _ _ cs _ _ ts true _ ?side1 ?side2 ?side3 ?side4 AM.out).mono ?_); (case side1 => (repeat (first | exact (Kd.C_below HR1.out HB.out) | (with_reducible refine Kd.C_alloc ?_ _) | (with_reducible refine Kd.C_drewN ?_ _) | (with_reducible refine Kd.C_drew ?_)))); (case side2 => exact HC1.out); (case side3 => (repeat (first | exact (Kd.C_below HR2.out HB.out) | (with_reducible refine Kd.C_alloc ?_ _) | (with_reducible refine Kd.C_drewN ?_ _) | (with_reducible refine Kd.C_drew ?_)))); (case side4 => exact HC2.out); rintro e w10 ⟨rfl, hb⟩; refine ⟨_, rfl, ?_⟩; replace BK2 := Aside0.mk (blk_below (g := gb2) (o := .cells #[.int .i64 a0, .slice A1 cs.length c1, .slice A2 ts.length c2] 25 (0, 0)) (by repeat first | exact BK2.out | apply blk_drewN | apply blk_drew | apply blk_alloc) hb); replace BK3 := Aside0.mk (blk_below (g := gb3) (o := .cells #[.int .i64 0, .slice none 0 0, .slice none 0 0] 25 (0, 0)) (by repeat first | exact BK3.out | apply blk_drewN | apply blk_drew | apply blk_alloc) hb); replace HB := Aside0.mk (below_step (by repeat first | exact HB.out | apply below_alloc | apply pw_below_drewN | apply below_drew1) hb); clear hb; have hcy2_0 : w10.cell? ⟨gb2, 0, none⟩ = some (.int .i64 a0) := (blk_cell BK2.out 0).trans rfl; have hcy2_1 : w10.cell? ⟨gb2, 1, none⟩ = some (.slice A1 cs.length c1) := (blk_cell BK2.out 1).trans rfl; have hcy2_2 : w10.cell? ⟨gb2, 2, none⟩ = some (.slice A2 ts.length c2) := (blk_cell BK2.out 2).trans rfl; have hfy2_0 := blk_frozen BK2.out 0; have hfy2_1 := blk_frozen BK2.out 1; have hfy2_2 := blk_frozen BK2.out 2; have hcy3_0 : w10.cell? ⟨gb3, 0, none⟩ = some (.int .i64 0) := (blk_cell BK3.out 0).trans rfl; have hcy3_1 : w10.cell? ⟨gb3, 1, none⟩ = some (.slice none 0 0) := (blk_cell BK3.out 1).trans rfl; have hcy3_2 : w10.cell? ⟨gb3, 2, none⟩ = some (.slice none 0 0) := (blk_cell BK3.out 2).trans rfl; have hfy3_0 := blk_frozen BK3.out 0; have hfy3_1 := blk_frozen BK3.out 1; have hfy3_2 := blk_frozen BK3.out 2))
      refine bodyPost_ret (results_ctt rfl _ _ gb3 25 #[.int .i64 0, .slice none 0 0, .slice none 0 0] (0, 0) _ rfl (by (with_reducible repeat (first | refine blk_drewN ?_ _ | refine blk_drew ?_ | refine blk_alloc ?_ _)); refine blk_put (cs := #[.int .i64 0, .slice none 0 0, .slice none 0 0]) ?_ 2 _ rfl; (with_reducible repeat (first | refine blk_drewN ?_ _ | refine blk_drew ?_ | refine blk_alloc ?_ _)); refine blk_put (cs := #[.int .i64 0, .slice none 0 0, .slice none 0 0]) ?_ 1 _ rfl; (with_reducible repeat (first | refine blk_drewN ?_ _ | refine blk_drew ?_ | refine blk_alloc ?_ _)); refine blk_put (cs := #[.int .i64 0, .slice none 0 0, .slice none 0 0]) ?_ 0 _ rfl; (with_reducible repeat (first | refine blk_drewN ?_ _ | refine blk_drew ?_ | refine blk_alloc ?_ _)); exact BK3.out) Try.underlying25 rfl (by kernel_rfl)) rfl ?_
      exact ⟨_, _, _, by first | rfl | (simp; done) | (simp [*]; done), by first | exact Kd.S_nil _ _ _ _ _ | exact Kd.R_nil _ _ _ _ _, by first | exact Kd.S_nil _ _ _ _ _ | exact Kd.R_nil _ _ _ _ _, by first | exact Kd.S_nil _ _ _ _ _ | exact Kd.R_nil _ _ _ _ _, by repeat (first | (with_reducible first | exact HB.out | apply below_alloc | apply pw_below_drewN | apply below_drew1 | refine below_set ?_ GE2.out | refine below_set ?_ GE3.out | refine below_set ?_ GE4.out) | exact HB.out)⟩
    · have hsb : decide (wrap64 ((ts.length : Int) + (cs.length : Int)) > 6000) = false := by rw [hw64]; exact decide_eq_false (by omega)
      have AT := Aside0.mk (show ts.length + cs.length ≤ 6000 by omega)
      have AS := Aside0.mk (memB_sum hm)
      have AB := Aside0.mk (memB_all hm)
      have A128 := Aside0.mk hb.2.2.1
      have AC := Aside0.mk (cloneMem_f a0 cs ts (k := 200) (by omega) (by omega) (memB_all hm) (by omega))
      have hF : memSweepF a0 cs ts = (a0, cs, ts ++ sweepT a0 cs.length, sweepB cs, 0) := by unfold memSweepF; rw [if_pos hm, if_neg hs]
      rw [hF]
      clear hF hb hw64 hs
      go_enter Try.func23, Try.ntmps23
      go_wp2_with (first | ((with_reducible refine gate_dst (N := 1) rfl ?_); (try (refine gate_guard (by rfl) ?_; dsimp only)); refine box_event ?hg (N := 1) ?hd (cs := #[.int .i64 a0, .slice A1 cs.length c1, .slice A2 ts.length c2]) (t := 25) ?hr ?_; (case hd => rfl); (case hg => rfl); (case hr => first | (go_simp; done) | (go_simp; rfl)); intro gb2 hg w62 hbox hb; have BK2 := Aside0.mk (hbox); have GE2 := Aside0.mk ((by rw [hg]; exact (below_size (by repeat first | exact HB.out | apply below_alloc | apply pw_below_drewN | apply below_drew1)) : w.heap.size ≤ gb2)); replace HB := Aside0.mk (below_step (by repeat first | exact HB.out | apply below_alloc | apply pw_below_drewN | apply below_drew1) hb); clear hb hbox hg; have hcz2_0 : w62.cell? ⟨gb2, 0, none⟩ = some (.int .i64 a0) := (blk_cell BK2.out 0).trans rfl; have hcz2_1 : w62.cell? ⟨gb2, 1, none⟩ = some (.slice A1 cs.length c1) := (blk_cell BK2.out 1).trans rfl; have hcz2_2 : w62.cell? ⟨gb2, 2, none⟩ = some (.slice A2 ts.length c2) := (blk_cell BK2.out 2).trans rfl; have hfz2_0 := blk_frozen BK2.out 0; have hfz2_1 := blk_frozen BK2.out 1; have hfz2_2 := blk_frozen BK2.out 2) | ((with_reducible refine gate_dst (N := 2) rfl ?_); (try (refine gate_guard (by rfl) ?_; dsimp only)); refine box_event ?hg (N := 2) ?hd (cs := #[.int .i64 0, .slice none 0 0, .slice none 0 0]) (t := 25) ?hr ?_; (case hd => rfl); (case hg => rfl); (case hr => first | (go_simp; done) | (go_simp; rfl)); intro gb3 hg w63 hbox hb; have BK3 := Aside0.mk (hbox); have GE3 := Aside0.mk ((by rw [hg]; exact (below_size (by repeat first | exact HB.out | apply below_alloc | apply pw_below_drewN | apply below_drew1)) : w.heap.size ≤ gb3)); have NB2_3 := Aside0.mk ((by rw [hg]; exact Nat.ne_of_lt (blk_lt (g := gb2) (o := .cells #[.int .i64 a0, .slice A1 cs.length c1, .slice A2 ts.length c2] 25 (0, 0)) (by repeat first | exact BK2.out | apply blk_drewN | apply blk_drew | apply blk_alloc)) : gb2 ≠ gb3)); have NB3_2 := Aside0.mk (NB2_3.out.symm); replace BK2 := Aside0.mk (blk_below (g := gb2) (o := .cells #[.int .i64 a0, .slice A1 cs.length c1, .slice A2 ts.length c2] 25 (0, 0)) (by repeat first | exact BK2.out | apply blk_drewN | apply blk_drew | apply blk_alloc) hb); replace HB := Aside0.mk (below_step (by repeat first | exact HB.out | apply below_alloc | apply pw_below_drewN | apply below_drew1) hb); clear hb hbox hg; have hnb2_3 := NB2_3.out; have hnc3_2 := NB3_2.out; have hcz3_0 : w63.cell? ⟨gb3, 0, none⟩ = some (.int .i64 0) := (blk_cell BK3.out 0).trans rfl; have hcz3_1 : w63.cell? ⟨gb3, 1, none⟩ = some (.slice none 0 0) := (blk_cell BK3.out 1).trans rfl; have hcz3_2 : w63.cell? ⟨gb3, 2, none⟩ = some (.slice none 0 0) := (blk_cell BK3.out 2).trans rfl; have hfz3_0 := blk_frozen BK3.out 0; have hfz3_1 := blk_frozen BK3.out 1; have hfz3_2 := blk_frozen BK3.out 2; have hcy2_0 : w63.cell? ⟨gb2, 0, none⟩ = some (.int .i64 a0) := (blk_cell BK2.out 0).trans rfl; have hcy2_1 : w63.cell? ⟨gb2, 1, none⟩ = some (.slice A1 cs.length c1) := (blk_cell BK2.out 1).trans rfl; have hcy2_2 : w63.cell? ⟨gb2, 2, none⟩ = some (.slice A2 ts.length c2) := (blk_cell BK2.out 2).trans rfl; have hfy2_0 := blk_frozen BK2.out 0; have hfy2_1 := blk_frozen BK2.out 1; have hfy2_2 := blk_frozen BK2.out 2) | ((with_reducible refine gate_callee (f := 39) rfl ?_); refine goesL_ (some 10) rfl rfl Try.func39 (by kernel_rfl) rfl #[.agg #[.int .i64 a0, .slice A1 cs.length c1, .slice A2 ts.length c2]] rfl (by (try simp only [List.map_toArray, List.map_cons, List.map_nil]); first | done | rfl) ?_; (with_reducible refine (impl_isMem.calls 6201 a0 _ _ cs _ _ ts true _ ?side1 ?side2 ?side3 ?side4 AM.out).mono ?_); (case side1 => (repeat (first | exact (Kd.C_below HR1.out HB.out) | (with_reducible refine Kd.C_alloc ?_ _) | (with_reducible refine Kd.C_drewN ?_ _) | (with_reducible refine Kd.C_drew ?_)))); (case side2 => exact HC1.out); (case side3 => (repeat (first | exact (Kd.C_below HR2.out HB.out) | (with_reducible refine Kd.C_alloc ?_ _) | (with_reducible refine Kd.C_drewN ?_ _) | (with_reducible refine Kd.C_drew ?_)))); (case side4 => exact HC2.out); rintro e w10 ⟨rfl, hb⟩; refine ⟨_, rfl, ?_⟩; replace BK2 := Aside0.mk (blk_below (g := gb2) (o := .cells #[.int .i64 a0, .slice A1 cs.length c1, .slice A2 ts.length c2] 25 (0, 0)) (by repeat first | exact BK2.out | apply blk_drewN | apply blk_drew | apply blk_alloc) hb); replace BK3 := Aside0.mk (blk_below (g := gb3) (o := .cells #[.int .i64 0, .slice none 0 0, .slice none 0 0] 25 (0, 0)) (by repeat first | exact BK3.out | apply blk_drewN | apply blk_drew | apply blk_alloc) hb); replace HB := Aside0.mk (below_step (by repeat first | exact HB.out | apply below_alloc | apply pw_below_drewN | apply below_drew1) hb); clear hb; have hcy2_0 : w10.cell? ⟨gb2, 0, none⟩ = some (.int .i64 a0) := (blk_cell BK2.out 0).trans rfl; have hcy2_1 : w10.cell? ⟨gb2, 1, none⟩ = some (.slice A1 cs.length c1) := (blk_cell BK2.out 1).trans rfl; have hcy2_2 : w10.cell? ⟨gb2, 2, none⟩ = some (.slice A2 ts.length c2) := (blk_cell BK2.out 2).trans rfl; have hfy2_0 := blk_frozen BK2.out 0; have hfy2_1 := blk_frozen BK2.out 1; have hfy2_2 := blk_frozen BK2.out 2; have hcy3_0 : w10.cell? ⟨gb3, 0, none⟩ = some (.int .i64 0) := (blk_cell BK3.out 0).trans rfl; have hcy3_1 : w10.cell? ⟨gb3, 1, none⟩ = some (.slice none 0 0) := (blk_cell BK3.out 1).trans rfl; have hcy3_2 : w10.cell? ⟨gb3, 2, none⟩ = some (.slice none 0 0) := (blk_cell BK3.out 2).trans rfl; have hfy3_0 := blk_frozen BK3.out 0; have hfy3_1 := blk_frozen BK3.out 1; have hfy3_2 := blk_frozen BK3.out 2) | ((with_reducible refine gate_callee (f := 41) rfl ?_); refine goesL_ (some 24) rfl rfl Try.func41 (by kernel_rfl) rfl #[.agg #[.int .i64 a0, .slice A1 cs.length c1, .slice A2 ts.length c2]] rfl (by (try simp only [List.map_toArray, List.map_cons, List.map_nil]); first | done | rfl) ?_; (with_reducible refine (impl_cloneMem.calls 200 a0 _ _ cs _ _ ts a0 cs ts _ ?side1 ?side2 ?side3 ?side4 AC.out).mono ?_); (case side1 => (repeat (first | exact (Kd.C_below HR1.out HB.out) | (with_reducible refine Kd.C_alloc ?_ _) | (with_reducible refine Kd.C_drewN ?_ _) | (with_reducible refine Kd.C_drew ?_)))); (case side2 => exact HC1.out); (case side3 => (repeat (first | exact (Kd.C_below HR2.out HB.out) | (with_reducible refine Kd.C_alloc ?_ _) | (with_reducible refine Kd.C_drewN ?_ _) | (with_reducible refine Kd.C_drew ?_)))); (case side4 => exact HC2.out); rintro e w28 ⟨v207, v210, rfl, ho0, ho1, hb⟩; obtain ⟨D1, d1, rfl⟩ := Kd.S_slice ho0; obtain ⟨D2, d2, rfl⟩ := Kd.R_slice ho1; refine ⟨_, rfl, ?_⟩; have HS := Aside0.mk (Kd.S_lower ho0 (below_size (by repeat first | exact HB.out | apply below_alloc | apply pw_below_drewN | apply below_drew1))); have HR := Aside0.mk (Kd.R_lower ho1 (below_size (by repeat first | exact HB.out | apply below_alloc | apply pw_below_drewN | apply below_drew1))); replace BK2 := Aside0.mk (blk_below (g := gb2) (o := .cells #[.int .i64 a0, .slice A1 cs.length c1, .slice A2 ts.length c2] 25 (0, 0)) (by repeat first | exact BK2.out | apply blk_drewN | apply blk_drew | apply blk_alloc) hb); replace BK3 := Aside0.mk (blk_below (g := gb3) (o := .cells #[.int .i64 0, .slice none 0 0, .slice none 0 0] 25 (0, 0)) (by repeat first | exact BK3.out | apply blk_drewN | apply blk_drew | apply blk_alloc) hb); replace HB := Aside0.mk (below_step (by repeat first | exact HB.out | apply below_alloc | apply pw_below_drewN | apply below_drew1) hb); clear hb ho0 ho1; have hcy2_0 : w28.cell? ⟨gb2, 0, none⟩ = some (.int .i64 a0) := (blk_cell BK2.out 0).trans rfl; have hcy2_1 : w28.cell? ⟨gb2, 1, none⟩ = some (.slice A1 cs.length c1) := (blk_cell BK2.out 1).trans rfl; have hcy2_2 : w28.cell? ⟨gb2, 2, none⟩ = some (.slice A2 ts.length c2) := (blk_cell BK2.out 2).trans rfl; have hfy2_0 := blk_frozen BK2.out 0; have hfy2_1 := blk_frozen BK2.out 1; have hfy2_2 := blk_frozen BK2.out 2; have hcy3_0 : w28.cell? ⟨gb3, 0, none⟩ = some (.int .i64 0) := (blk_cell BK3.out 0).trans rfl; have hcy3_1 : w28.cell? ⟨gb3, 1, none⟩ = some (.slice none 0 0) := (blk_cell BK3.out 1).trans rfl; have hcy3_2 : w28.cell? ⟨gb3, 2, none⟩ = some (.slice none 0 0) := (blk_cell BK3.out 2).trans rfl; have hfy3_0 := blk_frozen BK3.out 0; have hfy3_1 := blk_frozen BK3.out 1; have hfy3_2 := blk_frozen BK3.out 2) | ((with_reducible refine gate_dst (N := 5) rfl ?_); (try (refine gate_guard (by rfl) ?_; dsimp only)); refine box_event ?hg (N := 5) ?hd (cs := #[.int .i64 0, .slice none 0 0, .slice none 0 0]) (t := 25) ?hr ?_; (case hd => rfl); (case hg => rfl); (case hr => first | (go_simp; done) | (go_simp; rfl)); intro gb4 hg w64 hbox hb; have BK4 := Aside0.mk (hbox); have GE4 := Aside0.mk ((by rw [hg]; exact (below_size (by repeat first | exact HB.out | apply below_alloc | apply pw_below_drewN | apply below_drew1)) : w.heap.size ≤ gb4)); have NB2_4 := Aside0.mk ((by rw [hg]; exact Nat.ne_of_lt (blk_lt (g := gb2) (o := .cells #[.int .i64 a0, .slice A1 cs.length c1, .slice A2 ts.length c2] 25 (0, 0)) (by repeat first | exact BK2.out | apply blk_drewN | apply blk_drew | apply blk_alloc)) : gb2 ≠ gb4)); have NB4_2 := Aside0.mk (NB2_4.out.symm); have NB3_4 := Aside0.mk ((by rw [hg]; exact Nat.ne_of_lt (blk_lt (g := gb3) (o := .cells #[.int .i64 0, .slice none 0 0, .slice none 0 0] 25 (0, 0)) (by repeat first | exact BK3.out | apply blk_drewN | apply blk_drew | apply blk_alloc)) : gb3 ≠ gb4)); have NB4_3 := Aside0.mk (NB3_4.out.symm); replace BK2 := Aside0.mk (blk_below (g := gb2) (o := .cells #[.int .i64 a0, .slice A1 cs.length c1, .slice A2 ts.length c2] 25 (0, 0)) (by repeat first | exact BK2.out | apply blk_drewN | apply blk_drew | apply blk_alloc) hb); replace BK3 := Aside0.mk (blk_below (g := gb3) (o := .cells #[.int .i64 0, .slice none 0 0, .slice none 0 0] 25 (0, 0)) (by repeat first | exact BK3.out | apply blk_drewN | apply blk_drew | apply blk_alloc) hb); replace HS := Aside0.mk (Kd.S_below (by (with_reducible repeat (first | apply Kd.S_alloc | apply Kd.S_drewN | apply Kd.S_drew)); exact HS.out) hb); replace HR := Aside0.mk (Kd.R_below (by (with_reducible repeat (first | apply Kd.R_alloc | apply Kd.R_drewN | apply Kd.R_drew)); exact HR.out) hb); replace HB := Aside0.mk (below_step (by repeat first | exact HB.out | apply below_alloc | apply pw_below_drewN | apply below_drew1) hb); clear hb hbox hg; have hnb2_4 := NB2_4.out; have hnc4_2 := NB4_2.out; have hnb3_4 := NB3_4.out; have hnc4_3 := NB4_3.out; have hcz4_0 : w64.cell? ⟨gb4, 0, none⟩ = some (.int .i64 0) := (blk_cell BK4.out 0).trans rfl; have hcz4_1 : w64.cell? ⟨gb4, 1, none⟩ = some (.slice none 0 0) := (blk_cell BK4.out 1).trans rfl; have hcz4_2 : w64.cell? ⟨gb4, 2, none⟩ = some (.slice none 0 0) := (blk_cell BK4.out 2).trans rfl; have hfz4_0 := blk_frozen BK4.out 0; have hfz4_1 := blk_frozen BK4.out 1; have hfz4_2 := blk_frozen BK4.out 2; have hcy2_0 : w64.cell? ⟨gb2, 0, none⟩ = some (.int .i64 a0) := (blk_cell BK2.out 0).trans rfl; have hcy2_1 : w64.cell? ⟨gb2, 1, none⟩ = some (.slice A1 cs.length c1) := (blk_cell BK2.out 1).trans rfl; have hcy2_2 : w64.cell? ⟨gb2, 2, none⟩ = some (.slice A2 ts.length c2) := (blk_cell BK2.out 2).trans rfl; have hfy2_0 := blk_frozen BK2.out 0; have hfy2_1 := blk_frozen BK2.out 1; have hfy2_2 := blk_frozen BK2.out 2; have hcy3_0 : w64.cell? ⟨gb3, 0, none⟩ = some (.int .i64 0) := (blk_cell BK3.out 0).trans rfl; have hcy3_1 : w64.cell? ⟨gb3, 1, none⟩ = some (.slice none 0 0) := (blk_cell BK3.out 1).trans rfl; have hcy3_2 : w64.cell? ⟨gb3, 2, none⟩ = some (.slice none 0 0) := (blk_cell BK3.out 2).trans rfl; have hfy3_0 := blk_frozen BK3.out 0; have hfy3_1 := blk_frozen BK3.out 1; have hfy3_2 := blk_frozen BK3.out 2))
      have n0_ : Aside0 (Kd.S k50 50 (((w64.setCell ⟨gb4, 0, none⟩ (.int .i64 a0)).setCell ⟨gb4, 1, none⟩ (.slice D1 cs.length d1)).setCell ⟨gb4, 2, none⟩ (.slice D2 ts.length d2)) w.heap.size (fun _ => True) (.slice D1 cs.length d1) cs) := ⟨Kd.S_mono (Kd.S_far (p := ⟨gb4, 2, none⟩) (Kd.S_far (p := ⟨gb4, 1, none⟩) (Kd.S_far (p := ⟨gb4, 0, none⟩) (Kd.S_types HS.out BK4.out (by decide)) (fun _ hk => hk.2) (.int .i64 a0)) (fun _ hk => hk.2) (.slice D1 cs.length d1)) (fun _ hk => hk.2) (.slice D2 ts.length d2)) (fun _ _ => trivial)⟩
      have n1_ : Aside0 (Kd.R k59 59 (((w64.setCell ⟨gb4, 0, none⟩ (.int .i64 a0)).setCell ⟨gb4, 1, none⟩ (.slice D1 cs.length d1)).setCell ⟨gb4, 2, none⟩ (.slice D2 ts.length d2)) w.heap.size (fun _ => True) (.slice D2 ts.length d2) ts) := ⟨Kd.R_mono (Kd.R_far (p := ⟨gb4, 2, none⟩) (Kd.R_far (p := ⟨gb4, 1, none⟩) (Kd.R_far (p := ⟨gb4, 0, none⟩) (Kd.R_types HR.out BK4.out (by decide)) (fun _ hk => hk.2) (.int .i64 a0)) (fun _ hk => hk.2) (.slice D1 cs.length d1)) (fun _ hk => hk.2) (.slice D2 ts.length d2)) (fun _ _ => trivial)⟩
      have n2_ : Aside0 ((((w64.setCell ⟨gb4, 0, none⟩ (.int .i64 a0)).setCell ⟨gb4, 1, none⟩ (.slice D1 cs.length d1)).setCell ⟨gb4, 2, none⟩ (.slice D2 ts.length d2)).heap[gb3]? = some (.cells #[.int .i64 0, .slice none 0 0, .slice none 0 0] 25 (0, 0))) := ⟨by refine blk_far ?_ NB3_4.out _; (with_reducible repeat (first | refine blk_drewN ?_ _ | refine blk_drew ?_ | refine blk_alloc ?_ _)); refine blk_far ?_ NB3_4.out _; (with_reducible repeat (first | refine blk_drewN ?_ _ | refine blk_drew ?_ | refine blk_alloc ?_ _)); refine blk_far ?_ NB3_4.out _; (with_reducible repeat (first | refine blk_drewN ?_ _ | refine blk_drew ?_ | refine blk_alloc ?_ _)); exact BK3.out⟩
      have n3_ : Aside0 ((((w64.setCell ⟨gb4, 0, none⟩ (.int .i64 a0)).setCell ⟨gb4, 1, none⟩ (.slice D1 cs.length d1)).setCell ⟨gb4, 2, none⟩ (.slice D2 ts.length d2)).heap[gb4]? = some (.cells #[.int .i64 a0, .slice D1 cs.length d1, .slice D2 ts.length d2] 25 (0, 0))) := ⟨by refine blk_put (cs := #[.int .i64 a0, .slice D1 cs.length d1, .slice none 0 0]) ?_ 2 _ rfl; (with_reducible repeat (first | refine blk_drewN ?_ _ | refine blk_drew ?_ | refine blk_alloc ?_ _)); refine blk_put (cs := #[.int .i64 a0, .slice none 0 0, .slice none 0 0]) ?_ 1 _ rfl; (with_reducible repeat (first | refine blk_drewN ?_ _ | refine blk_drew ?_ | refine blk_alloc ?_ _)); refine blk_put (cs := #[.int .i64 0, .slice none 0 0, .slice none 0 0]) ?_ 0 _ rfl; (with_reducible repeat (first | refine blk_drewN ?_ _ | refine blk_drew ?_ | refine blk_alloc ?_ _)); exact BK4.out⟩
      have n4_ : Aside0 (Below w.heap.size w (((w64.setCell ⟨gb4, 0, none⟩ (.int .i64 a0)).setCell ⟨gb4, 1, none⟩ (.slice D1 cs.length d1)).setCell ⟨gb4, 2, none⟩ (.slice D2 ts.length d2))) := ⟨(by repeat (first | (with_reducible first | exact HB.out | apply below_alloc | apply pw_below_drewN | apply below_drew1 | refine below_set ?_ GE2.out | refine below_set ?_ GE3.out | refine below_set ?_ GE4.out) | exact HB.out))⟩
      clear HS HR BK2 BK3 BK4 HB
      generalize (((w64.setCell ⟨gb4, 0, none⟩ (.int .i64 a0)).setCell ⟨gb4, 1, none⟩ (.slice D1 cs.length d1)).setCell ⟨gb4, 2, none⟩ (.slice D2 ts.length d2)) = w7 at n0_ n1_ n2_ n3_ n4_ ⊢
      have HS := n0_
      have HR := n1_
      have BK3 := n2_
      have BK4 := n3_
      have HB := n4_
      clear n0_ n1_ n2_ n3_ n4_
      try go_wp2
      go_loopg [6, 28] (cs.length + 1) (fun kq u6 v28 w' => ∃ (i : Nat) (E2 : Option Addr) (e2 : Nat) (tq : List S59), Aside0 (tq = ts ++ sweepT a0 i) ∧ v28 = .int .i64 (i : Int) ∧ Aside0 (i ≤ cs.length) ∧ Aside0 (kq + i = cs.length + 1) ∧ Aside0 (Kd.R (Kd.int .u8) 5 w' w.heap.size (fun _ => True) u6 (sweepB (cs.take i))) ∧ Aside0 (Kd.S k50 50 w' w.heap.size (fun k_ => some k_ ≠ (u6 : Value).ownBlock) (.slice D1 cs.length d1) cs) ∧ Aside0 (Kd.R k59 59 w' w.heap.size (fun _ => True) (.slice E2 tq.length e2) tq) ∧ Aside0 (w'.heap[gb3]? = some (.cells #[.int .i64 0, .slice none 0 0, .slice none 0 0] 25 (0, 0))) ∧ Aside0 (w'.heap[gb4]? = some (.cells #[.int .i64 a0, .slice D1 cs.length d1, .slice E2 tq.length e2] 25 (0, 0))) ∧ Aside0 (Below w.heap.size w w'))
      case atStart =>
        have hz : ts ++ sweepT a0 0 = ts := by simp [sweepT]
        exact ⟨0, D2, d2, ts, ⟨hz.symm⟩, by first | rfl | (simp; done), ⟨Nat.zero_le _⟩, ⟨rfl⟩, ⟨Kd.R_nil _ _ _ _ _⟩, ⟨Kd.S_mono HS.out (fun _ _ => by simp [Value.ownBlock])⟩, HR, BK3, BK4, HB⟩
      case round =>
        clear HS HR BK3 BK4 HB
        obtain ⟨i, E2, e2, tq, HTQ, rfl, HI, HQ, HV, HS, HR, BK3, BK4, HB⟩ := hrel
        cases gk with
        | zero => exact absurd HQ.out (by have := HI.out; omega)
        | succ k1 =>
          have hcy3_0 : wr.cell? ⟨gb3, 0, none⟩ = some (.int .i64 0) := (blk_cell BK3.out 0).trans rfl
          have hcy3_1 : wr.cell? ⟨gb3, 1, none⟩ = some (.slice none 0 0) := (blk_cell BK3.out 1).trans rfl
          have hcy3_2 : wr.cell? ⟨gb3, 2, none⟩ = some (.slice none 0 0) := (blk_cell BK3.out 2).trans rfl
          have hfy3_0 := blk_frozen BK3.out 0
          have hfy3_1 := blk_frozen BK3.out 1
          have hfy3_2 := blk_frozen BK3.out 2
          have hcy4_0 : wr.cell? ⟨gb4, 0, none⟩ = some (.int .i64 a0) := (blk_cell BK4.out 0).trans rfl
          have hcy4_1 : wr.cell? ⟨gb4, 1, none⟩ = some (.slice D1 cs.length d1) := (blk_cell BK4.out 1).trans rfl
          have hcy4_2 : wr.cell? ⟨gb4, 2, none⟩ = some (.slice E2 tq.length e2) := (blk_cell BK4.out 2).trans rfl
          have hfy4_0 := blk_frozen BK4.out 0
          have hfy4_1 := blk_frozen BK4.out 1
          have hfy4_2 := blk_frozen BK4.out 2
          by_cases c3 : (i : Int) < (cs.length : Int)
          · have LI : i < cs.length := by omega
            have AN := Aside0.mk LI
            have LW : wrap64 ((i : Int) + 1) = ((i + 1 : Nat) : Int) := by have := A128.out; rw [show ((i : Int) + 1) = ((i + 1 : Nat) : Int) from rfl]; unfold wrap64; omega
            have AW := Aside0.mk LW
            obtain ⟨cx, hcx⟩ : ∃ cx, cs.getD i z50 = cx := ⟨_, rfl⟩
            have ACX := Aside0.mk hcx
            have hcg : cs[i] = cx := by rw [← hcx, List.getD_eq_getElem?_getD, List.getElem?_eq_getElem LI]; rfl
            have hlc := AB.out _ (List.getElem_mem LI)
            rw [hcg] at hlc
            have hsb1 := sweepB_step LI
            rw [hcg] at hsb1
            have ASB := Aside0.mk hsb1
            have hst := sumC_take cs i
            have ALM : Aside0 ((sweepB (cs.take i)).length + cx.f0.length < 140737488355328) := ⟨by rw [sweepB_length]; have := AS.out; omega⟩
            have ALT : Aside0 (tq.length ≤ 1000000) := ⟨by rw [HTQ.out, List.length_append, sweepT_length]; have := AT.out; omega⟩
            obtain ⟨tr, htr⟩ : ∃ tr, tr = tq ++ [(⟨1, (i : Int), a0⟩ : S59)] := ⟨_, rfl⟩
            have ATR := Aside0.mk htr.symm
            have AST : Aside0 (tr = ts ++ sweepT a0 (i + 1)) := ⟨by rw [htr, HTQ.out]; exact sweepT_step a0 ts i⟩
            have ALN : Aside0 (tq.length + 1 = tr.length) := ⟨by rw [htr, List.length_append]; rfl⟩
            clear htr
            have c3b0 : decide ((i : Int) < (cs.length : Int)) = true := decide_eq_true c3
            have c3b1 : decide (i < cs.length) = true := decide_eq_true LI
            clear c3 LI LW hcx hcg hlc hsb1 hst
            go_wp2_with (first | ((with_reducible refine gate_callee (f := 43) rfl ?_); refine goesL_ (some 33) rfl rfl Try.func43 (by kernel_rfl) rfl #[.pointer (some ⟨gb4, 0, none⟩), .int .i64 (i : Int)] rfl (by (try simp only [List.map_toArray, List.map_cons, List.map_nil]); first | done | rfl) ?_; refine (memRead_calls (fun k_ => some k_ ≠ (u6 : Value).ownBlock) a0 cs tq i AN.out ALT.out gb4 D1 d1 E2 e2 cx ACX.out w _ ?sB ?sg ?sbk ?sS ?sR).mono ?_; (case sB => exact (by repeat first | exact HB.out | apply below_alloc | apply pw_below_drewN | apply below_drew1)); (case sg => exact GE4.out); (case sbk => exact (by repeat first | exact BK4.out | apply blk_drewN | apply blk_drew | apply blk_alloc)); (case sS => exact (by (with_reducible repeat (first | apply Kd.S_alloc | apply Kd.S_drewN | apply Kd.S_drew)); exact HS.out)); (case sR => exact (by (with_reducible repeat (first | apply Kd.R_alloc | apply Kd.R_drewN | apply Kd.R_drew)); exact HR.out)); rintro e w30 ⟨E3, e3, F2, f2, rfl, hbk4, hS4, hR4, hle, hC, hB4, hK⟩; refine ⟨_, rfl, ?_⟩; replace HV := Aside0.mk (row_past_read (by (with_reducible repeat (first | apply Kd.R_alloc | apply Kd.R_drewN | apply Kd.R_drew)); exact HV.out) (by repeat first | exact BK4.out | apply blk_drewN | apply blk_drew | apply blk_alloc) hK); replace BK3 : Aside0 (w30.heap[gb3]? = some (.cells #[.int .i64 0, .slice none 0 0, .slice none 0 0] 25 (0, 0))) := ⟨hK gb3 _ _ NB3_4.out (by decide) (by decide) (by repeat first | exact BK3.out | apply blk_drewN | apply blk_drew | apply blk_alloc)⟩; rw [ALN.out] at hbk4 hR4; rw [ATR.out] at hR4; clear BK4 HS HR HB hK; have BK4 : Aside0 (w30.heap[gb4]? = some (.cells #[.int .i64 a0, .slice D1 cs.length d1, .slice E3 tr.length e3] 25 (0, 0))) := ⟨hbk4⟩; have HS := Aside0.mk hS4; have HR := Aside0.mk hR4; have HLE := Aside0.mk hle; have HCB := Aside0.mk hC; have HB := Aside0.mk hB4; clear hbk4 hS4 hR4 hle hC hB4) | ((with_reducible refine gate_builtin (b := .append) (xs := #[.tmp 31, .tmp 33]) rfl ?_); at_builtin; refine Kd.R_append_rows (Kd.int .u8) (w0 := w) w.heap.size rfl (.tmp 31) (.tmp 33) 38 5 (.int .u8 0) 1 rfl Try.underlying38 info5 rfl (by decide) (by omega) u6 (sweepB (cs.take i)) cx.f0 _ _ _ (fun _ => True) (fun _ => False) rfl rfl ?aO ?aR (fun _ _ h => h) (fun _ h => h.elim) ?aF ?aB ?aS ?aL ?_; (case aR => repeat (first | exact HCB.out | (with_reducible refine Kd.C_alloc ?_ _) | (with_reducible refine Kd.C_drewN ?_ _) | (with_reducible refine Kd.C_drew ?_))); (case aB => exact (by repeat first | exact HB.out | apply below_alloc | apply pw_below_drewN | apply below_drew1)); (case aF => exact (fun _ _ => trivial)); (case aO => exact (by (with_reducible repeat (first | apply Kd.R_alloc | apply Kd.R_drewN | apply Kd.R_drew)); exact HV.out)); (case aS => exact (below_size (by repeat first | exact HB.out | apply below_alloc | apply pw_below_drewN | apply below_drew1))); (case aL => have := ALM.out; omega); intro v218 w35 ho hb hg hat; rw [ASB.out] at ho; have n0_ := Aside0.mk (Kd.S_after (ok := (fun _ => True)) (by (with_reducible repeat (first | apply Kd.S_alloc | apply Kd.S_drewN | apply Kd.S_drew)); exact Kd.S_mono HS.out (fun _ hk => ⟨trivial, hk⟩)) hg hat); have n1_ := Aside0.mk (Kd.R_over' (by (with_reducible repeat (first | apply Kd.R_alloc | apply Kd.R_drewN | apply Kd.R_drew)); exact HR.out) (Kd.R_typed (by (with_reducible repeat (first | apply Kd.R_alloc | apply Kd.R_drewN | apply Kd.R_drew)); exact HV.out)) (by decide) hg); have n2_ := Aside0.mk (blk_grown (g := gb3) (o := .cells #[.int .i64 0, .slice none 0 0, .slice none 0 0] 25 (0, 0)) (by repeat first | exact BK3.out | apply blk_drewN | apply blk_drew | apply blk_alloc) hg (Kd.R_ne HV.out BK3.out (by decide))); have n3_ := Aside0.mk (blk_grown (g := gb4) (o := .cells #[.int .i64 a0, .slice D1 cs.length d1, .slice E3 tr.length e3] 25 (0, 0)) (by repeat first | exact BK4.out | apply blk_drewN | apply blk_drew | apply blk_alloc) hg (Kd.R_ne HV.out BK4.out (by decide))); clear HS HR BK3 BK4 HV HB; have HS := n0_; have HR := n1_; have BK3 := n2_; have BK4 := n3_; have HB := Aside0.mk hb; have HV := Aside0.mk ho; clear n0_ n1_ n2_ n3_ ho hb hg hat))
            go_roundg k1
            case measure => have := HQ.out; omega
            case rel => exact ⟨i + 1, E3, e3, tr, AST, by first | (rw [AW.out]; done) | (simp [AW.out]; done), ⟨AN.out⟩, ⟨by have := HQ.out; omega⟩, ⟨by (with_reducible repeat (first | apply Kd.R_alloc | apply Kd.R_drewN | apply Kd.R_drew)); exact HV.out⟩, ⟨by (with_reducible repeat (first | apply Kd.S_alloc | apply Kd.S_drewN | apply Kd.S_drew)); exact Kd.S_mono HS.out (fun _ hk => hk.2)⟩, ⟨by (with_reducible repeat (first | apply Kd.R_alloc | apply Kd.R_drewN | apply Kd.R_drew)); exact HR.out⟩, ⟨(by repeat first | exact BK3.out | apply blk_drewN | apply blk_drew | apply blk_alloc)⟩, ⟨(by repeat first | exact BK4.out | apply blk_drewN | apply blk_drew | apply blk_alloc)⟩, ⟨(by repeat first | exact HB.out | apply below_alloc | apply pw_below_drewN | apply below_drew1)⟩⟩
          · have c3b0 : decide ((i : Int) < (cs.length : Int)) = false := decide_eq_false c3
            have c3n : decide (i < cs.length) = false := decide_eq_false (by omega)
            have LE : i = cs.length := by have := HI.out; omega
            have AE := Aside0.mk LE
            clear c3 LE
            go_wp2
            have LE := AE.out
            subst LE
            have hv := HV.out
            rw [List.take_length] at hv
            have hr := HR.out
            have ht := HTQ.out
            refine bodyPost_ret (results_ctt rfl _ _ gb3 25 #[.int .i64 a0, .slice D1 cs.length d1, .slice E2 tq.length e2] (0, 0) _ rfl (by (with_reducible repeat (first | refine blk_drewN ?_ _ | refine blk_drew ?_ | refine blk_alloc ?_ _)); refine blk_put (cs := #[.int .i64 a0, .slice D1 cs.length d1, .slice none 0 0]) ?_ 2 _ rfl; (with_reducible repeat (first | refine blk_drewN ?_ _ | refine blk_drew ?_ | refine blk_alloc ?_ _)); refine blk_put (cs := #[.int .i64 a0, .slice none 0 0, .slice none 0 0]) ?_ 1 _ rfl; (with_reducible repeat (first | refine blk_drewN ?_ _ | refine blk_drew ?_ | refine blk_alloc ?_ _)); refine blk_put (cs := #[.int .i64 0, .slice none 0 0, .slice none 0 0]) ?_ 0 _ rfl; (with_reducible repeat (first | refine blk_drewN ?_ _ | refine blk_drew ?_ | refine blk_alloc ?_ _)); exact BK3.out) Try.underlying25 rfl (by kernel_rfl)) rfl ?_
            rw [← ht]
            exact ⟨_, _, u6, by first | rfl | (simp; done) | (simp [*]; done), by (with_reducible repeat (first | apply Kd.S_alloc | apply Kd.S_drewN | apply Kd.S_drew)); exact Kd.S_mono (Kd.S_far (p := ⟨gb3, 2, none⟩) (Kd.S_far (p := ⟨gb3, 1, none⟩) (Kd.S_far (p := ⟨gb3, 0, none⟩) (Kd.S_types HS.out BK3.out (by decide)) (fun _ hk => hk.2) (.int .i64 a0)) (fun _ hk => hk.2) (.slice D1 cs.length d1)) (fun _ hk => hk.2) (.slice E2 tq.length e2)) (fun _ hk => hk.1), by (with_reducible repeat (first | apply Kd.R_alloc | apply Kd.R_drewN | apply Kd.R_drew)); exact Kd.R_mono (Kd.R_far (p := ⟨gb3, 2, none⟩) (Kd.R_far (p := ⟨gb3, 1, none⟩) (Kd.R_far (p := ⟨gb3, 0, none⟩) (Kd.R_types HR.out BK3.out (by decide)) (fun _ hk => hk.2) (.int .i64 a0)) (fun _ hk => hk.2) (.slice D1 cs.length d1)) (fun _ hk => hk.2) (.slice E2 tq.length e2)) (fun _ _ => trivial), by (with_reducible repeat (first | apply Kd.R_alloc | apply Kd.R_drewN | apply Kd.R_drew)); exact Kd.R_mono (Kd.R_far (p := ⟨gb3, 2, none⟩) (Kd.R_far (p := ⟨gb3, 1, none⟩) (Kd.R_far (p := ⟨gb3, 0, none⟩) (Kd.R_types hv BK3.out (by decide)) (fun _ hk => hk.2) (.int .i64 a0)) (fun _ hk => hk.2) (.slice D1 cs.length d1)) (fun _ hk => hk.2) (.slice E2 tq.length e2)) (fun _ _ => trivial), by repeat (first | (with_reducible first | exact HB.out | apply below_alloc | apply pw_below_drewN | apply below_drew1 | refine below_set ?_ GE2.out | refine below_set ?_ GE3.out | refine below_set ?_ GE4.out) | exact HB.out)⟩
  · have AM := Aside0.mk (impl_isMem_f a0 cs ts (k := 6201) (by omega))
    rw [Bool.eq_false_iff.mpr hm] at AM
    have hF : memSweepF a0 cs ts = (0, [], [], [], 1) := by unfold memSweepF; rw [if_neg hm]
    rw [hF]
    clear hF
    go_enter Try.func23, Try.ntmps23
    go_wp2_with (first | ((with_reducible refine gate_dst (N := 1) rfl ?_); (try (refine gate_guard (by rfl) ?_; dsimp only)); refine box_event ?hg (N := 1) ?hd (cs := #[.int .i64 a0, .slice A1 cs.length c1, .slice A2 ts.length c2]) (t := 25) ?hr ?_; (case hd => rfl); (case hg => rfl); (case hr => first | (go_simp; done) | (go_simp; rfl)); intro gb2 hg w62 hbox hb; have BK2 := Aside0.mk (hbox); have GE2 := Aside0.mk ((by rw [hg]; exact (below_size (by repeat first | exact HB.out | apply below_alloc | apply pw_below_drewN | apply below_drew1)) : w.heap.size ≤ gb2)); replace HB := Aside0.mk (below_step (by repeat first | exact HB.out | apply below_alloc | apply pw_below_drewN | apply below_drew1) hb); clear hb hbox hg; have hcz2_0 : w62.cell? ⟨gb2, 0, none⟩ = some (.int .i64 a0) := (blk_cell BK2.out 0).trans rfl; have hcz2_1 : w62.cell? ⟨gb2, 1, none⟩ = some (.slice A1 cs.length c1) := (blk_cell BK2.out 1).trans rfl; have hcz2_2 : w62.cell? ⟨gb2, 2, none⟩ = some (.slice A2 ts.length c2) := (blk_cell BK2.out 2).trans rfl; have hfz2_0 := blk_frozen BK2.out 0; have hfz2_1 := blk_frozen BK2.out 1; have hfz2_2 := blk_frozen BK2.out 2) | ((with_reducible refine gate_dst (N := 2) rfl ?_); (try (refine gate_guard (by rfl) ?_; dsimp only)); refine box_event ?hg (N := 2) ?hd (cs := #[.int .i64 0, .slice none 0 0, .slice none 0 0]) (t := 25) ?hr ?_; (case hd => rfl); (case hg => rfl); (case hr => first | (go_simp; done) | (go_simp; rfl)); intro gb3 hg w63 hbox hb; have BK3 := Aside0.mk (hbox); have GE3 := Aside0.mk ((by rw [hg]; exact (below_size (by repeat first | exact HB.out | apply below_alloc | apply pw_below_drewN | apply below_drew1)) : w.heap.size ≤ gb3)); have NB2_3 := Aside0.mk ((by rw [hg]; exact Nat.ne_of_lt (blk_lt (g := gb2) (o := .cells #[.int .i64 a0, .slice A1 cs.length c1, .slice A2 ts.length c2] 25 (0, 0)) (by repeat first | exact BK2.out | apply blk_drewN | apply blk_drew | apply blk_alloc)) : gb2 ≠ gb3)); have NB3_2 := Aside0.mk (NB2_3.out.symm); replace BK2 := Aside0.mk (blk_below (g := gb2) (o := .cells #[.int .i64 a0, .slice A1 cs.length c1, .slice A2 ts.length c2] 25 (0, 0)) (by repeat first | exact BK2.out | apply blk_drewN | apply blk_drew | apply blk_alloc) hb); replace HB := Aside0.mk (below_step (by repeat first | exact HB.out | apply below_alloc | apply pw_below_drewN | apply below_drew1) hb); clear hb hbox hg; have hnb2_3 := NB2_3.out; have hnc3_2 := NB3_2.out; have hcz3_0 : w63.cell? ⟨gb3, 0, none⟩ = some (.int .i64 0) := (blk_cell BK3.out 0).trans rfl; have hcz3_1 : w63.cell? ⟨gb3, 1, none⟩ = some (.slice none 0 0) := (blk_cell BK3.out 1).trans rfl; have hcz3_2 : w63.cell? ⟨gb3, 2, none⟩ = some (.slice none 0 0) := (blk_cell BK3.out 2).trans rfl; have hfz3_0 := blk_frozen BK3.out 0; have hfz3_1 := blk_frozen BK3.out 1; have hfz3_2 := blk_frozen BK3.out 2; have hcy2_0 : w63.cell? ⟨gb2, 0, none⟩ = some (.int .i64 a0) := (blk_cell BK2.out 0).trans rfl; have hcy2_1 : w63.cell? ⟨gb2, 1, none⟩ = some (.slice A1 cs.length c1) := (blk_cell BK2.out 1).trans rfl; have hcy2_2 : w63.cell? ⟨gb2, 2, none⟩ = some (.slice A2 ts.length c2) := (blk_cell BK2.out 2).trans rfl; have hfy2_0 := blk_frozen BK2.out 0; have hfy2_1 := blk_frozen BK2.out 1; have hfy2_2 := blk_frozen BK2.out 2) | ((with_reducible refine gate_callee (f := 39) rfl ?_); refine goesL_ (some 10) rfl rfl Try.func39 (by kernel_rfl) rfl #[.agg #[.int .i64 a0, .slice A1 cs.length c1, .slice A2 ts.length c2]] rfl (by (try simp only [List.map_toArray, List.map_cons, List.map_nil]); first | done | rfl) ?_; (with_reducible refine (impl_isMem.calls 6201 a0 _ _ cs _ _ ts false _ ?side1 ?side2 ?side3 ?side4 AM.out).mono ?_); (case side1 => (repeat (first | exact (Kd.C_below HR1.out HB.out) | (with_reducible refine Kd.C_alloc ?_ _) | (with_reducible refine Kd.C_drewN ?_ _) | (with_reducible refine Kd.C_drew ?_)))); (case side2 => exact HC1.out); (case side3 => (repeat (first | exact (Kd.C_below HR2.out HB.out) | (with_reducible refine Kd.C_alloc ?_ _) | (with_reducible refine Kd.C_drewN ?_ _) | (with_reducible refine Kd.C_drew ?_)))); (case side4 => exact HC2.out); rintro e w10 ⟨rfl, hb⟩; refine ⟨_, rfl, ?_⟩; replace BK2 := Aside0.mk (blk_below (g := gb2) (o := .cells #[.int .i64 a0, .slice A1 cs.length c1, .slice A2 ts.length c2] 25 (0, 0)) (by repeat first | exact BK2.out | apply blk_drewN | apply blk_drew | apply blk_alloc) hb); replace BK3 := Aside0.mk (blk_below (g := gb3) (o := .cells #[.int .i64 0, .slice none 0 0, .slice none 0 0] 25 (0, 0)) (by repeat first | exact BK3.out | apply blk_drewN | apply blk_drew | apply blk_alloc) hb); replace HB := Aside0.mk (below_step (by repeat first | exact HB.out | apply below_alloc | apply pw_below_drewN | apply below_drew1) hb); clear hb; have hcy2_0 : w10.cell? ⟨gb2, 0, none⟩ = some (.int .i64 a0) := (blk_cell BK2.out 0).trans rfl; have hcy2_1 : w10.cell? ⟨gb2, 1, none⟩ = some (.slice A1 cs.length c1) := (blk_cell BK2.out 1).trans rfl; have hcy2_2 : w10.cell? ⟨gb2, 2, none⟩ = some (.slice A2 ts.length c2) := (blk_cell BK2.out 2).trans rfl; have hfy2_0 := blk_frozen BK2.out 0; have hfy2_1 := blk_frozen BK2.out 1; have hfy2_2 := blk_frozen BK2.out 2; have hcy3_0 : w10.cell? ⟨gb3, 0, none⟩ = some (.int .i64 0) := (blk_cell BK3.out 0).trans rfl; have hcy3_1 : w10.cell? ⟨gb3, 1, none⟩ = some (.slice none 0 0) := (blk_cell BK3.out 1).trans rfl; have hcy3_2 : w10.cell? ⟨gb3, 2, none⟩ = some (.slice none 0 0) := (blk_cell BK3.out 2).trans rfl; have hfy3_0 := blk_frozen BK3.out 0; have hfy3_1 := blk_frozen BK3.out 1; have hfy3_2 := blk_frozen BK3.out 2))
    refine bodyPost_ret (results_ctt rfl _ _ gb3 25 #[.int .i64 0, .slice none 0 0, .slice none 0 0] (0, 0) _ rfl (by (with_reducible repeat (first | refine blk_drewN ?_ _ | refine blk_drew ?_ | refine blk_alloc ?_ _)); refine blk_put (cs := #[.int .i64 0, .slice none 0 0, .slice none 0 0]) ?_ 2 _ rfl; (with_reducible repeat (first | refine blk_drewN ?_ _ | refine blk_drew ?_ | refine blk_alloc ?_ _)); refine blk_put (cs := #[.int .i64 0, .slice none 0 0, .slice none 0 0]) ?_ 1 _ rfl; (with_reducible repeat (first | refine blk_drewN ?_ _ | refine blk_drew ?_ | refine blk_alloc ?_ _)); refine blk_put (cs := #[.int .i64 0, .slice none 0 0, .slice none 0 0]) ?_ 0 _ rfl; (with_reducible repeat (first | refine blk_drewN ?_ _ | refine blk_drew ?_ | refine blk_alloc ?_ _)); exact BK3.out) Try.underlying25 rfl (by kernel_rfl)) rfl ?_
    exact ⟨_, _, _, by first | rfl | (simp; done) | (simp [*]; done), by first | exact Kd.S_nil _ _ _ _ _ | exact Kd.R_nil _ _ _ _ _, by first | exact Kd.S_nil _ _ _ _ _ | exact Kd.R_nil _ _ _ _ _, by first | exact Kd.S_nil _ _ _ _ _ | exact Kd.R_nil _ _ _ _ _, by repeat (first | (with_reducible first | exact HB.out | apply below_alloc | apply pw_below_drewN | apply below_drew1 | refine below_set ?_ GE2.out | refine below_set ?_ GE3.out | refine below_set ?_ GE4.out) | exact HB.out)⟩

theorem mem_newX {w W w1 wA W' : World} {v1 v2 v3 : Value} {a : Int} {cs : List S50} {ts : List S59} {xs : List Int} {gb : Nat} (hB : Below w.heap.size w W) (hb : Below W.heap.size W w1) (hS : Kd.S k50 50 w1 W.heap.size (fun k => some k ≠ v3.ownBlock) v1 cs) (hR : Kd.R k59 59 w1 W.heap.size (fun _ => True) v2 ts)
    (hO : Kd.R (Kd.int .u8) 5 w1 W.heap.size (fun _ => True) v3 xs)
    (hg : gb = w1.heap.size) (hbox : wA.heap[gb]? = some (.cells #[.int .i64 0, .slice none 0 0, .slice none 0 0] 25 (0, 0))) (hbA : Below w1.heap.size w1 wA)
    (hW : W' = ((wA.setCell ⟨gb, 0, none⟩ (.int .i64 a)).setCell ⟨gb, 1, none⟩ v1).setCell ⟨gb, 2, none⟩ v2) :
    Below w.heap.size w W' ∧ Below W.heap.size W W' ∧ Kd.S k50 50 W' w.heap.size (fun k => W.heap.size ≤ k ∧ k < gb ∧ some k ≠ v3.ownBlock) v1 cs ∧ Kd.R k59 59 W' w.heap.size (fun k => W.heap.size ≤ k ∧ k < gb ∧ some k ≠ v3.ownBlock) v2 ts ∧ W'.heap[gb]? = some (.cells #[.int .i64 a, v1, v2] 25 (0, 0)) ∧ W.heap.size ≤ gb ∧ gb < W'.heap.size ∧ Kd.R (Kd.int .u8) 5 W' w.heap.size (fun k => W.heap.size ≤ k ∧ k < gb ∧ some k = v3.ownBlock) v3 xs := by
  subst hW
  have hge : W.heap.size ≤ gb := by rw [hg]; exact hb.size
  have hgw : w.heap.size ≤ gb := Nat.le_trans hB.size hge
  have b1 := blk_put hbox 0 (.int .i64 a) rfl
  have b2 := blk_put b1 1 v1 rfl
  have b3 := blk_put b2 2 v2 rfl
  have hWA : Below W.heap.size W wA := below_step hb hbA
  have hwA : Below w.heap.size w wA := below_step (below_step hB hb) hbA
  have hS1 : Kd.S k50 50 w1 w.heap.size (fun k => W.heap.size ≤ k ∧ k < gb ∧ some k ≠ v3.ownBlock) v1 cs := Kd.S_lower (Kd.S_mono (Kd.S_bound hS) (fun k hk => ⟨hk.2.1, by rw [hg]; exact hk.2.2.1, hk.1⟩)) hB.size
  have hR1 : Kd.R k59 59 w1 w.heap.size (fun k => W.heap.size ≤ k ∧ k < gb ∧ some k ≠ v3.ownBlock) v2 ts := Kd.R_lower (Kd.R_mono (Kd.R_bound (Kd.R_apart' hR (Kd.R_typed hO) (by decide))) (fun k hk => ⟨hk.2.1, by rw [hg]; exact hk.2.2.1, hk.1.2⟩)) hB.size
  have hO0 : Kd.R (Kd.int .u8) 5 w1 w.heap.size (fun k => W.heap.size ≤ k ∧ k < gb) v3 xs := Kd.R_lower (Kd.R_mono (Kd.R_bound hO) (fun k hk => ⟨hk.2.1, by rw [hg]; exact hk.2.2.1⟩)) hB.size
  have hO1 : Kd.R (Kd.int .u8) 5 w1 w.heap.size (fun k => W.heap.size ≤ k ∧ k < gb ∧ some k = v3.ownBlock) v3 xs := ⟨fun k hk => ⟨(hO0.1 k hk).1, (hO0.1 k hk).2, hk.symm⟩, hO0.2⟩
  have hS2 := Kd.S_below hS1 hbA
  have hR2 := Kd.R_below hR1 hbA
  have hO2 := Kd.R_below hO1 hbA
  refine ⟨below_set (below_set (below_set hwA hgw) hgw) hgw, below_set (below_set (below_set hWA hge) hge) hge, ?_, ?_, b3, hge, blk_lt b3, ?_⟩
  · exact Kd.S_far (Kd.S_far (Kd.S_far hS2 (fun k hk => Nat.ne_of_lt hk.2.1) _) (fun k hk => Nat.ne_of_lt hk.2.1) _) (fun k hk => Nat.ne_of_lt hk.2.1) _
  · exact Kd.R_far (Kd.R_far (Kd.R_far hR2 (fun k hk => Nat.ne_of_lt hk.2.1) _) (fun k hk => Nat.ne_of_lt hk.2.1) _) (fun k hk => Nat.ne_of_lt hk.2.1) _
  · exact Kd.R_far (Kd.R_far (Kd.R_far hO2 (fun k hk => Nat.ne_of_lt hk.2.1) _) (fun k hk => Nat.ne_of_lt hk.2.1) _) (fun k hk => Nat.ne_of_lt hk.2.1) _
theorem heldMem_calls (K : Nat) (a0 a b : Int) (cs : List S50) (n : Nat) {A1 A2 : Option Addr} {c1 c2 base base' : Nat} {ok ok' : Nat → Prop} (w : World) (hS : Kd.S k50 50 w base ok (.slice A1 cs.length c1) (markC a cs)) (hR : Kd.R k59 59 w base' ok' (.slice A2 n c2) (markT b n)) (r : Int) (h : laws_heldMem.f K a0 (markC a cs) (markT b n) a = some r) :
    Calls Try.prog 12 #[.agg #[.int .i64 a0, .slice A1 cs.length c1, .slice A2 n c2], .int .i64 a] w fun e w' => e = .returned (.int .i64 r) ∧ Below w.heap.size w w' := by
  have h1 := Kd.S_reads' hS
  have h2 := Kd.R_reads' hR
  have h' := laws_heldMem.calls K a0 A1 c1 (markC a cs) A2 c2 (markT b n) a r w h1.2.2 (by rw [markC_length]; exact h1.2.1) h2.2.2 (by rw [markT_length]; exact h2.2.1) h
  rw [markC_length, markT_length] at h'
  exact h'
theorem heldByteS_calls (K : Nat) (a : Int) (n : Nat) (r : Int) {E : Option Addr} {e base : Nat} {ok : Nat → Prop} (w : World) (hO : Kd.R (Kd.int .u8) 5 w base ok (.slice E n e) (markL a n)) (h : laws_heldByteS.f K (markL a n) a = some r) :
    Calls Try.prog 21 #[.slice E n e, .int .i64 a] w fun e w' => e = .returned (.int .i64 r) ∧ Drawn0 w w' := by
  have h1 := Kd.R_reads' hO
  have h' := laws_heldByteS.calls K E e (markL a n) a r w h1.2.2 (by rw [markL_length]; exact h1.2.1) h
  rw [markL_length] at h'
  exact h'
theorem implMemSweep_calls' (a0 : Int) (A1 : Option Addr) (c1 : Nat) (cs : List S50) (A2 : Option Addr) (c2 : Nat) (ts : List S59) (r1 r5 : Int) (r2 : List S50) (r3 : List S59) (r4 : List Int) (w : World) (hr1 : Kd.C k50 w A1 cs.length cs) (hc1 : cs.length ≤ c1) (hr2 : Kd.C k59 w A2 ts.length ts) (hc2 : ts.length ≤ c2) (h : memSweepF a0 cs ts = (r1, r2, r3, r4, r5)) :
    Calls Try.prog 23 #[.agg #[.int .i64 a0, .slice A1 cs.length c1, .slice A2 ts.length c2]] w fun e w' => ∃ v1_ v2_ v3_ : Value, e = .returned (.tuple #[.agg #[.int .i64 r1, v1_, v2_], v3_, .int .i64 r5]) ∧ Kd.S k50 50 w' w.heap.size (fun k_ => some k_ ≠ (v3_ : Value).ownBlock) v1_ r2 ∧ Kd.R k59 59 w' w.heap.size (fun _ => True) v2_ r3 ∧ Kd.R (Kd.int .u8) 5 w' w.heap.size (fun _ => True) v3_ r4 ∧ Below w.heap.size w w' := by
  have h' := implMemSweep_calls a0 A1 c1 cs A2 c2 ts w hr1 hc1 hr2 hc2
  rw [h] at h'
  exact h'
set_option maxHeartbeats 8000000 in
set_option maxRecDepth 100000 in
theorem law_calls (a0 : Int) (Aa : Option Addr) (ca : Nat) (l1 : List S68) (Ab : Option Addr) (cb : Nat) (l2 : List S71) (w : World) (hC1 : Kd.C k68 w Aa l1.length l1) (hL1 : l1.length ≤ ca) (hC2 : Kd.C k71 w Ab l2.length l2) (hL2 : l2.length ≤ cb)
    (hb : ∀ i : Nat, i < l1.length → (rd_T68 l1 (i : Int)).f0.length ≤ 9223372036854775807) :
    Calls Try.prog 6 #[.agg #[.int .i64 a0, .slice Aa l1.length ca, .slice Ab l2.length cb]] w fun e w' => e = .returned (.bool true) ∧ Below w.heap.size w w' := by
  have hu33 := Try.underlying33
  obtain ⟨K, hK0⟩ : ∃ K : Nat, 3000000 ≤ K := ⟨3000000, Nat.le_refl _⟩
  have hK := Aside0.mk hK0
  have h1 := Kd.C_max hC1
  have h2 := Kd.C_max hC2
  obtain ⟨r, hsz, hr⟩ := szMem_f a0 l1 l2 h1 h2 hb (show 1048577 < K by omega)
  have hsum := szMem_sum a0 l1 l2 h1 h2 hb (show 1048577 < K by omega) hsz
  have HSZ := Aside0.mk hsz
  have HC1 := Aside0.mk hC1
  have HC2 := Aside0.mk hC2
  have HL1 := Aside0.mk hL1
  have HL2 := Aside0.mk hL2
  have HB := Aside0.mk (Below.refl w.heap.size w)
  rcases hr with hr | ⟨r0, z1, z2, zb⟩
  · have hr1 : decide (r < 0) = true := decide_eq_true hr
    clear hK0 h1 h2 hsz hsum hC1 hC2 hL1 hL2 hb hr
    go_enter Try.func6, Try.ntmps6
    go_wp2_with (first | ((with_reducible refine gate_dst (N := 1) rfl ?_); (try (refine gate_guard (by rfl) ?_; dsimp only)); refine box_event ?hg (N := 1) ?hd (cs := #[.int .i64 a0, .slice Aa l1.length ca, .slice Ab l2.length cb]) (t := 33) ?hr ?_; (case hd => rfl); (case hg => rfl); (case hr => first | (go_simp; done) | (go_simp; rfl)); intro gbA hg_ w6A hbox_ hb_; have n0_ := Aside0.mk (below_step HB.out hb_); have n1_ := Aside0.mk hbox_; have n2_ := Aside0.mk (blk_lt hbox_); have n3_ := Aside0.mk (show w.heap.size ≤ gbA by rw [hg_]; exact Nat.le_refl _); clear HB hb_ hbox_ hg_; have HB := n0_; have BKA := n1_; have SZA := n2_; have GEA := n3_; clear n0_ n1_ n2_ n3_; have hczA_0 : w6A.cell? ⟨gbA, 0, none⟩ = some (Value.int .i64 a0) := (blk_cell BKA.out 0).trans rfl; have hczA_1 : w6A.cell? ⟨gbA, 1, none⟩ = some (.slice Aa l1.length ca) := (blk_cell BKA.out 1).trans rfl; have hczA_2 : w6A.cell? ⟨gbA, 2, none⟩ = some (.slice Ab l2.length cb) := (blk_cell BKA.out 2).trans rfl) | (go_at_call 13; refine (laws_szMem.calls K a0 Aa ca l1 Ab cb l2 1048576 r _ (Kd.C_below HC1.out HB.out) HL1.out (Kd.C_below HC2.out HB.out) HL2.out HSZ.out).mono ?_; rintro e wz ⟨rfl, hb_⟩; clear hczA_0 hczA_1 hczA_2; replace SZA := Aside0.mk (Nat.lt_of_lt_of_le SZA.out (Below.size hb_)); replace BKA := Aside0.mk ((Below.block hb_ _ (blk_lt BKA.out)).trans BKA.out); replace HB := Aside0.mk (below_step HB.out hb_); have hczA_0 : wz.cell? ⟨gbA, 0, none⟩ = some (Value.int .i64 a0) := (blk_cell BKA.out 0).trans rfl; have hczA_1 : wz.cell? ⟨gbA, 1, none⟩ = some (.slice Aa l1.length ca) := (blk_cell BKA.out 1).trans rfl; have hczA_2 : wz.cell? ⟨gbA, 2, none⟩ = some (.slice Ab l2.length cb) := (blk_cell BKA.out 2).trans rfl; clear hb_))
    go_ret
    exact ⟨by first | rfl | (simp; done) | (simp [*]; done), HB.out⟩
  have hr1 : decide (r < 0) = false := decide_eq_false (by omega)
  have hsum' := hsum r0
  have zc : ∀ j : Nat, j < (l1.map cellOf).length → (rd_T50 (l1.map cellOf) (j : Int)).f0.length ≤ 1048576 := fun j hj => by
    rw [List.length_map] at hj
    have := zb j hj
    rw [rd_lcell hj] at this
    rw [rd_cell (by rw [List.length_map]; exact hj), List.getElem_map]
    exact this
  have zm : ∀ c ∈ l1.map cellOf, c.f0.length ≤ 1048576 := fun c hc => by
    obtain ⟨j, hj, rfl⟩ := List.getElem_of_mem hc
    have := zc j hj
    rw [rd_cell hj] at this
    exact this
  have y1 : (l1.map cellOf).length ≤ 1048576 := by rw [List.length_map]; exact z1
  have y2 : (l2.map touchOf).length ≤ 1048576 := by rw [List.length_map]; exact z2
  have htm := toMem_f a0 l1 l2 z1 z2 zb (show 2097160 < K by omega)
  generalize l1.map cellOf = cs at *
  generalize l2.map touchOf = ts at *
  have HTM := Aside0.mk htm
  have HEX := Aside0.mk (eqMem_f a0 cs ts y1 y2 zc (show 2097160 < K by omega))
  obtain ⟨m0, rc, rt, rb, rk, hF⟩ : ∃ m0 rc rt rb rk, memSweepF a0 cs ts = (m0, rc, rt, rb, rk) := ⟨_, _, _, _, _, rfl⟩
  obtain ⟨f1, f2, f3, f4⟩ := memSweepF_facts hF
  have hsp := spec_MemSweep_f a0 cs ts (k := K) (by omega)
  rw [hF] at hsp
  have HSP := Aside0.mk hsp
  have HF := Aside0.mk hF
  have f5 : ∀ c ∈ rc, c.f0.length ≤ 1048576 := fun c hc => Nat.le_trans (f2 c hc) (by decide)
  have f6 := sumC_le rc 1000 f2
  have f7 : sumC rc ≤ 128000 := Nat.le_trans f6 (Nat.le_trans (Nat.mul_le_mul_right 1000 f1) (by decide))
  have HEQ := Aside0.mk (eqMem_f m0 rc rt (by omega) (by omega) (rd_of_mem f5) (k := K) (by omega))
  have HHL := Aside0.mk (heldMem_f m0 1 rc rt.length (by decide) (by decide) (by omega) (by omega) (rd_of_mem f5) (by omega) (k := K) (by omega))
  have hEB : laws_eqByteS.f K rb rb = some true := by rw [eqByteS_f rb rb (by omega) (by omega), decide_eq_true rfl]
  have HEB := Aside0.mk hEB
  obtain ⟨kv, hkv⟩ : ∃ kv, 1 + (sumC cs : Int) + 3 * (ts.length : Int) = kv := ⟨_, rfl⟩
  have HKV := Aside0.mk hkv
  obtain ⟨mv, hmv⟩ : ∃ mv, 1 + (sumC rc : Int) + 3 * (rt.length : Int) = mv := ⟨_, rfl⟩
  have HMV := Aside0.mk hmv
  rw [hmv] at HHL
  obtain ⟨mw, hmw⟩ : ∃ mw, mv + (rb.length : Int) = mw := ⟨_, rfl⟩
  have hmb := markByteS_f mv (by omega) (by omega) rb (by omega) (k := K) (by omega)
  have hhb := heldByteS_f mv (by omega) (by omega) rb.length (by omega) (k := K) (by omega)
  rw [hmw] at hmb hhb
  have HMB := Aside0.mk hmb
  have HHB := Aside0.mk hhb
  have hkv0 : decide (kv < 0) = false := decide_eq_false (by omega)
  have hmv0 : decide (mv < 0) = false := decide_eq_false (by omega)
  have hmw0 : decide (mw < 0) = false := decide_eq_false (by omega)
  have hmw1 : (mw != mw) = false := by simp
  have hrk1 : (rk != rk) = false := by simp
  have Y1 := Aside0.mk y1
  have Y2 := Aside0.mk y2
  have Y3 := Aside0.mk hsum'
  have Y4 := Aside0.mk zm
  have Z1 := Aside0.mk (show rc.length ≤ 1048576 by omega)
  have Z2 := Aside0.mk (show rt.length ≤ 1048576 by omega)
  have Z3 := Aside0.mk f7
  have Z4 := Aside0.mk f5
  clear hK0 h1 h2 hsz hsum hC1 hC2 hL1 hL2 hb r0 z1 z2 zb hsum' zc zm y1 y2 htm hF f1 f2 f3 f4 f5 f6 f7 hsp hEB hkv hmv hmw hmb hhb
  go_enter Try.func6, Try.ntmps6
  go_wp2_with (first | ((with_reducible refine gate_dst (N := 1) rfl ?_); (try (refine gate_guard (by rfl) ?_; dsimp only)); refine box_event ?hg (N := 1) ?hd (cs := #[.int .i64 a0, .slice Aa l1.length ca, .slice Ab l2.length cb]) (t := 33) ?hr ?_; (case hd => rfl); (case hg => rfl); (case hr => first | (go_simp; done) | (go_simp; rfl)); intro gbA hg_ w6A hbox_ hb_; have n0_ := Aside0.mk (below_step HB.out hb_); have n1_ := Aside0.mk hbox_; have n2_ := Aside0.mk (blk_lt hbox_); have n3_ := Aside0.mk (show w.heap.size ≤ gbA by rw [hg_]; exact Nat.le_refl _); clear HB hb_ hbox_ hg_; have HB := n0_; have BKA := n1_; have SZA := n2_; have GEA := n3_; clear n0_ n1_ n2_ n3_; have hczA_0 : w6A.cell? ⟨gbA, 0, none⟩ = some (Value.int .i64 a0) := (blk_cell BKA.out 0).trans rfl; have hczA_1 : w6A.cell? ⟨gbA, 1, none⟩ = some (.slice Aa l1.length ca) := (blk_cell BKA.out 1).trans rfl; have hczA_2 : w6A.cell? ⟨gbA, 2, none⟩ = some (.slice Ab l2.length cb) := (blk_cell BKA.out 2).trans rfl) | (go_at_call 13; refine (laws_szMem.calls K a0 Aa ca l1 Ab cb l2 1048576 r _ (Kd.C_below HC1.out HB.out) HL1.out (Kd.C_below HC2.out HB.out) HL2.out HSZ.out).mono ?_; rintro e wz ⟨rfl, hb_⟩; clear hczA_0 hczA_1 hczA_2; replace SZA := Aside0.mk (Nat.lt_of_lt_of_le SZA.out (Below.size hb_)); replace BKA := Aside0.mk ((Below.block hb_ _ (blk_lt BKA.out)).trans BKA.out); replace HB := Aside0.mk (below_step HB.out hb_); have hczA_0 : wz.cell? ⟨gbA, 0, none⟩ = some (Value.int .i64 a0) := (blk_cell BKA.out 0).trans rfl; have hczA_1 : wz.cell? ⟨gbA, 1, none⟩ = some (.slice Aa l1.length ca) := (blk_cell BKA.out 1).trans rfl; have hczA_2 : wz.cell? ⟨gbA, 2, none⟩ = some (.slice Ab l2.length cb) := (blk_cell BKA.out 2).trans rfl; clear hb_))
  have TOK1 := Aside0.mk trivial
  go_wp2_with (first | (clear TOK1; go_at_call 15; refine (laws_toMem.calls K a0 Aa ca l1 Ab cb l2 a0 cs ts _ (Kd.C_below HC1.out HB.out) HL1.out (Kd.C_below HC2.out HB.out) HL2.out HTM.out).mono ?_; rintro e t1 ⟨u1_1, u1_2, rfl, hS1, hR1, hb1⟩; obtain ⟨At1, ct1, rfl⟩ := Kd.S_slice hS1; obtain ⟨Dt1, dt1, rfl⟩ := Kd.R_slice hR1; have HT1 := Aside0.mk (And.intro hS1 (And.intro hR1 hb1)); clear hS1 hR1 hb1) | (go_at_call 22; refine (spec_MemSweep.calls K a0 _ _ cs _ _ ts m0 rc rt rb rk _ (Kd.S_reads' HT1.out.1).2.2 (Kd.S_reads' HT1.out.1).2.1 (Kd.R_reads' HT1.out.2.1).2.2 (Kd.R_reads' HT1.out.2.1).2.1 HSP.out).mono ?_; rintro e w1 ⟨v1_1, v1_2, v1_3, rfl, hS1, hR1, hO1, hb1⟩; obtain ⟨A1, c1, rfl⟩ := Kd.S_slice hS1; obtain ⟨D1, d1, rfl⟩ := Kd.R_slice hR1; obtain ⟨E1, e1, rfl⟩ := Kd.R_slice hO1; have HN1 := Aside0.mk (And.intro (Kd.S_lower hS1 (Below.size HT1.out.2.2)) (And.intro (Kd.R_lower hR1 (Below.size HT1.out.2.2)) (And.intro (Kd.R_lower hO1 (Below.size HT1.out.2.2)) (below_step HT1.out.2.2 hb1)))); clear hS1 hR1 hO1 hb1) | ((with_reducible refine gate_dst (N := 4) rfl ?_); refine box_event ?hg (N := 4) ?hd (cs := #[.int .i64 0, .slice none 0 0, .slice none 0 0]) (t := 25) ?hr ?_; (case hd => rfl); (case hg => rfl); (case hr => first | (go_simp; done) | (go_simp; rfl)); intro gb1 hg1 wA1 hbox1 hbA1; have HA1 := Aside0.mk (And.intro hg1 (And.intro hbox1 hbA1)); have hfa_0 := blk_frozen hbox1 0; have hfa_1 := blk_frozen hbox1 1; have hfa_2 := blk_frozen hbox1 2; have hca_0 : wA1.cell? ⟨gb1, 0, none⟩ = some (.int .i64 0) := (blk_cell hbox1 0).trans rfl; have hca_1 : wA1.cell? ⟨gb1, 1, none⟩ = some (.slice none 0 0) := (blk_cell hbox1 1).trans rfl; have hca_2 : wA1.cell? ⟨gb1, 2, none⟩ = some (.slice none 0 0) := (blk_cell hbox1 2).trans rfl; clear hg1 hbox1 hbA1) | ((with_reducible refine gate_store (t := 25) (p := 4) rfl ?_); refine store_event (t := 25) (p := 4) (v := ?vo_1) (w1 := ((wA1.setCell ⟨gb1, 0, none⟩ (.int .i64 m0)).setCell ⟨gb1, 1, none⟩ (.slice A1 (rc).length c1)).setCell ⟨gb1, 2, none⟩ (.slice D1 (rt).length d1)) ?hg ?ho ?hn ?hr ?_; (case ho => rfl); (case hg => rfl); (case hn => rfl); (case hr => first | (go_simp; done) | (go_simp; rfl)); intro W1 hW1; obtain ⟨hq1_, hq2_, hq3_, hq4_, hq5_, hq6_, hq7_, hq8_⟩ := mem_newX (w := w) (W := wz) (w1 := w1) (a := m0) HB.out HN1.out.2.2.2 HN1.out.1 HN1.out.2.1 HN1.out.2.2.1 HA1.out.1 HA1.out.2.1 HA1.out.2.2 hW1; have KA_1 := Aside0.mk (show gbA < wz.heap.size from SZA.out); clear hczA_0 hczA_1 hczA_2; replace SZA := Aside0.mk (Nat.lt_of_lt_of_le SZA.out (Below.size hq2_)); replace BKA := Aside0.mk ((Below.block hq2_ _ (blk_lt BKA.out)).trans BKA.out); replace HB := Aside0.mk hq1_; have HS1 := Aside0.mk hq3_; have HR1 := Aside0.mk hq4_; have BK1 := Aside0.mk hq5_; have LG1 := Aside0.mk hq6_; have SZ1 := Aside0.mk hq7_; have HO1 := Aside0.mk hq8_; clear hq1_ hq2_ hq3_ hq4_ hq5_ hq6_ hq7_ hq8_ hW1 HN1 HA1 HT1 hfa_0 hfa_1 hfa_2 hca_0 hca_1 hca_2; have hczA_0 : W1.cell? ⟨gbA, 0, none⟩ = some (Value.int .i64 a0) := (blk_cell BKA.out 0).trans rfl; have hczA_1 : W1.cell? ⟨gbA, 1, none⟩ = some (.slice Aa l1.length ca) := (blk_cell BKA.out 1).trans rfl; have hczA_2 : W1.cell? ⟨gbA, 2, none⟩ = some (.slice Ab l2.length cb) := (blk_cell BKA.out 2).trans rfl))
  go_wp2_with (first | (go_at_call 15; refine (laws_toMem.calls K a0 Aa ca l1 Ab cb l2 a0 cs ts _ (Kd.C_below HC1.out HB.out) HL1.out (Kd.C_below HC2.out HB.out) HL2.out HTM.out).mono ?_; rintro e w0 ⟨v0_1, v0_2, rfl, hS0, hR0, hb0⟩; obtain ⟨A0, c0, rfl⟩ := Kd.S_slice hS0; obtain ⟨D0, d0, rfl⟩ := Kd.R_slice hR0; have HN0 := Aside0.mk (And.intro hS0 (And.intro hR0 hb0)); clear hS0 hR0 hb0) | ((with_reducible refine gate_dst (N := 7) rfl ?_); refine box_event ?hg (N := 7) ?hd (cs := #[.int .i64 0, .slice none 0 0, .slice none 0 0]) (t := 25) ?hr ?_; (case hd => rfl); (case hg => rfl); (case hr => first | (go_simp; done) | (go_simp; rfl)); intro gb0 hg0 wA0 hbox0 hbA0; have HA0 := Aside0.mk (And.intro hg0 (And.intro hbox0 hbA0)); have hfa_0 := blk_frozen hbox0 0; have hfa_1 := blk_frozen hbox0 1; have hfa_2 := blk_frozen hbox0 2; have hca_0 : wA0.cell? ⟨gb0, 0, none⟩ = some (.int .i64 0) := (blk_cell hbox0 0).trans rfl; have hca_1 : wA0.cell? ⟨gb0, 1, none⟩ = some (.slice none 0 0) := (blk_cell hbox0 1).trans rfl; have hca_2 : wA0.cell? ⟨gb0, 2, none⟩ = some (.slice none 0 0) := (blk_cell hbox0 2).trans rfl; clear hg0 hbox0 hbA0) | ((with_reducible refine gate_store (t := 25) (p := 7) rfl ?_); refine store_event (t := 25) (p := 7) (v := ?vo_0) (w1 := ((wA0.setCell ⟨gb0, 0, none⟩ (.int .i64 a0)).setCell ⟨gb0, 1, none⟩ (.slice A0 (cs).length c0)).setCell ⟨gb0, 2, none⟩ (.slice D0 (ts).length d0)) ?hg ?ho ?hn ?hr ?_; (case ho => rfl); (case hg => rfl); (case hn => rfl); (case hr => first | (go_simp; done) | (go_simp; rfl)); intro W2 hW0; obtain ⟨hq1_, hq2_, hq3_, hq4_, hq5_, hq6_, hq7_⟩ := mem_new (w := w) (W := W1) (w1 := w0) (a := a0) HB.out HN0.out.2.2 HN0.out.1 HN0.out.2.1 HA0.out.1 HA0.out.2.1 HA0.out.2.2 hW0; have OR_1_0 := Aside0.mk (show gb1 < W1.heap.size from SZ1.out); have KA_0 := Aside0.mk (show gbA < W1.heap.size from SZA.out); clear hczA_0 hczA_1 hczA_2; replace HS1 := Aside0.mk (Kd.S_below HS1.out hq2_); replace HR1 := Aside0.mk (Kd.R_below HR1.out hq2_); replace SZ1 := Aside0.mk (Nat.lt_of_lt_of_le SZ1.out (Below.size hq2_)); replace BK1 := Aside0.mk ((Below.block hq2_ _ (blk_lt BK1.out)).trans BK1.out); replace HO1 := Aside0.mk (Kd.R_below HO1.out hq2_); replace SZA := Aside0.mk (Nat.lt_of_lt_of_le SZA.out (Below.size hq2_)); replace BKA := Aside0.mk ((Below.block hq2_ _ (blk_lt BKA.out)).trans BKA.out); replace HB := Aside0.mk hq1_; have HS0 := Aside0.mk hq3_; have HR0 := Aside0.mk hq4_; have BK0 := Aside0.mk hq5_; have LG0 := Aside0.mk hq6_; have SZ0 := Aside0.mk hq7_; clear hq1_ hq2_ hq3_ hq4_ hq5_ hq6_ hq7_ hW0 HN0 HA0 hfa_0 hfa_1 hfa_2 hca_0 hca_1 hca_2; have hcz0_0 : W2.cell? ⟨gb0, 0, none⟩ = some (.int .i64 a0) := (blk_cell BK0.out 0).trans rfl; have hcz0_1 : W2.cell? ⟨gb0, 1, none⟩ = some (.slice A0 (cs).length c0) := (blk_cell BK0.out 1).trans rfl; have hcz0_2 : W2.cell? ⟨gb0, 2, none⟩ = some (.slice D0 (ts).length d0) := (blk_cell BK0.out 2).trans rfl))
  go_wp2_with (first | (go_at_call 23; refine (implMemSweep_calls' a0 _ _ cs _ _ ts m0 rk rc rt rb _ (Kd.S_reads' HS0.out).2.2 (Kd.S_reads' HS0.out).2.1 (Kd.R_reads' HR0.out).2.2 (Kd.R_reads' HR0.out).2.1 HF.out).mono ?_; rintro e w2 ⟨v2_1, v2_2, v2_3, rfl, hS2, hR2, hO2, hb2⟩; obtain ⟨A2, c2, rfl⟩ := Kd.S_slice hS2; obtain ⟨D2, d2, rfl⟩ := Kd.R_slice hR2; obtain ⟨E2, e2, rfl⟩ := Kd.R_slice hO2; have HN2 := Aside0.mk (And.intro hS2 (And.intro hR2 (And.intro hO2 hb2))); clear hS2 hR2 hO2 hb2) | ((with_reducible refine gate_dst (N := 8) rfl ?_); refine box_event ?hg (N := 8) ?hd (cs := #[.int .i64 0, .slice none 0 0, .slice none 0 0]) (t := 25) ?hr ?_; (case hd => rfl); (case hg => rfl); (case hr => first | (go_simp; done) | (go_simp; rfl)); intro gb2 hg2 wA2 hbox2 hbA2; have HA2 := Aside0.mk (And.intro hg2 (And.intro hbox2 hbA2)); have hfa_0 := blk_frozen hbox2 0; have hfa_1 := blk_frozen hbox2 1; have hfa_2 := blk_frozen hbox2 2; have hca_0 : wA2.cell? ⟨gb2, 0, none⟩ = some (.int .i64 0) := (blk_cell hbox2 0).trans rfl; have hca_1 : wA2.cell? ⟨gb2, 1, none⟩ = some (.slice none 0 0) := (blk_cell hbox2 1).trans rfl; have hca_2 : wA2.cell? ⟨gb2, 2, none⟩ = some (.slice none 0 0) := (blk_cell hbox2 2).trans rfl; clear hg2 hbox2 hbA2) | ((with_reducible refine gate_store (t := 25) (p := 8) rfl ?_); refine store_event (t := 25) (p := 8) (v := ?vo_2) (w1 := ((wA2.setCell ⟨gb2, 0, none⟩ (.int .i64 m0)).setCell ⟨gb2, 1, none⟩ (.slice A2 (rc).length c2)).setCell ⟨gb2, 2, none⟩ (.slice D2 (rt).length d2)) ?hg ?ho ?hn ?hr ?_; (case ho => rfl); (case hg => rfl); (case hn => rfl); (case hr => first | (go_simp; done) | (go_simp; rfl)); intro W3 hW2; obtain ⟨hq1_, hq2_, hq3_, hq4_, hq5_, hq6_, hq7_, hq8_⟩ := mem_newX (w := w) (W := W2) (w1 := w2) (a := m0) HB.out HN2.out.2.2.2 HN2.out.1 HN2.out.2.1 HN2.out.2.2.1 HA2.out.1 HA2.out.2.1 HA2.out.2.2 hW2; have OR_1_2 := Aside0.mk (show gb1 < W2.heap.size from SZ1.out); have OR_0_2 := Aside0.mk (show gb0 < W2.heap.size from SZ0.out); have KA_2 := Aside0.mk (show gbA < W2.heap.size from SZA.out); clear hcz0_0 hcz0_1 hcz0_2; replace HS1 := Aside0.mk (Kd.S_below HS1.out hq2_); replace HR1 := Aside0.mk (Kd.R_below HR1.out hq2_); replace SZ1 := Aside0.mk (Nat.lt_of_lt_of_le SZ1.out (Below.size hq2_)); replace BK1 := Aside0.mk ((Below.block hq2_ _ (blk_lt BK1.out)).trans BK1.out); replace HO1 := Aside0.mk (Kd.R_below HO1.out hq2_); replace HS0 := Aside0.mk (Kd.S_below HS0.out hq2_); replace HR0 := Aside0.mk (Kd.R_below HR0.out hq2_); replace SZ0 := Aside0.mk (Nat.lt_of_lt_of_le SZ0.out (Below.size hq2_)); replace BK0 := Aside0.mk ((Below.block hq2_ _ (blk_lt BK0.out)).trans BK0.out); replace SZA := Aside0.mk (Nat.lt_of_lt_of_le SZA.out (Below.size hq2_)); replace BKA := Aside0.mk ((Below.block hq2_ _ (blk_lt BKA.out)).trans BKA.out); replace HB := Aside0.mk hq1_; have HS2 := Aside0.mk hq3_; have HR2 := Aside0.mk hq4_; have BK2 := Aside0.mk hq5_; have LG2 := Aside0.mk hq6_; have SZ2 := Aside0.mk hq7_; have HO2 := Aside0.mk hq8_; clear hq1_ hq2_ hq3_ hq4_ hq5_ hq6_ hq7_ hq8_ hW2 HN2 HA2 hfa_0 hfa_1 hfa_2 hca_0 hca_1 hca_2; have hcz2_0 : W3.cell? ⟨gb2, 0, none⟩ = some (.int .i64 m0) := (blk_cell BK2.out 0).trans rfl; have hcz2_1 : W3.cell? ⟨gb2, 1, none⟩ = some (.slice A2 (rc).length c2) := (blk_cell BK2.out 1).trans rfl; have hcz2_2 : W3.cell? ⟨gb2, 2, none⟩ = some (.slice D2 (rt).length d2) := (blk_cell BK2.out 2).trans rfl; have hcz1_0 : W3.cell? ⟨gb1, 0, none⟩ = some (.int .i64 m0) := (blk_cell BK1.out 0).trans rfl; have hcz1_1 : W3.cell? ⟨gb1, 1, none⟩ = some (.slice A1 (rc).length c1) := (blk_cell BK1.out 1).trans rfl; have hcz1_2 : W3.cell? ⟨gb1, 2, none⟩ = some (.slice D1 (rt).length d1) := (blk_cell BK1.out 2).trans rfl))
  go_wp2_with (go_at_call 10; refine (laws_eqMem.calls K m0 _ _ rc _ _ rt m0 _ _ rc _ _ rt true _ (Kd.S_reads' HS2.out).2.2 (Kd.S_reads' HS2.out).2.1 (Kd.R_reads' HR2.out).2.2 (Kd.R_reads' HR2.out).2.1 (Kd.S_reads' HS1.out).2.2 (Kd.S_reads' HS1.out).2.1 (Kd.R_reads' HR1.out).2.2 (Kd.R_reads' HR1.out).2.1 HEQ.out).mono ?_; rintro e we3 ⟨rfl, hb_⟩; clear hcz2_0 hcz2_1 hcz2_2 hcz1_0 hcz1_1 hcz1_2; replace HS1 := Aside0.mk (Kd.S_below HS1.out hb_); replace HR1 := Aside0.mk (Kd.R_below HR1.out hb_); replace SZ1 := Aside0.mk (Nat.lt_of_lt_of_le SZ1.out (Below.size hb_)); replace BK1 := Aside0.mk ((Below.block hb_ _ (blk_lt BK1.out)).trans BK1.out); replace HO1 := Aside0.mk (Kd.R_below HO1.out hb_); replace HS0 := Aside0.mk (Kd.S_below HS0.out hb_); replace HR0 := Aside0.mk (Kd.R_below HR0.out hb_); replace SZ0 := Aside0.mk (Nat.lt_of_lt_of_le SZ0.out (Below.size hb_)); replace BK0 := Aside0.mk ((Below.block hb_ _ (blk_lt BK0.out)).trans BK0.out); replace HS2 := Aside0.mk (Kd.S_below HS2.out hb_); replace HR2 := Aside0.mk (Kd.R_below HR2.out hb_); replace SZ2 := Aside0.mk (Nat.lt_of_lt_of_le SZ2.out (Below.size hb_)); replace BK2 := Aside0.mk ((Below.block hb_ _ (blk_lt BK2.out)).trans BK2.out); replace HO2 := Aside0.mk (Kd.R_below HO2.out hb_); replace SZA := Aside0.mk (Nat.lt_of_lt_of_le SZA.out (Below.size hb_)); replace BKA := Aside0.mk ((Below.block hb_ _ (blk_lt BKA.out)).trans BKA.out); replace HB := Aside0.mk (below_step HB.out hb_); clear hb_)
  go_wp2_with (go_at_call 19; refine (laws_eqByteS.calls K _ _ rb _ _ rb true _ (Kd.R_reads' HO2.out).2.2 (Kd.R_reads' HO2.out).2.1 (Kd.R_reads' HO1.out).2.2 (Kd.R_reads' HO1.out).2.1 HEB.out).mono ?_; rintro e wq4 ⟨rfl, hd_⟩; have hb_ := hd_.below; replace HS1 := Aside0.mk (Kd.S_below HS1.out hb_); replace HR1 := Aside0.mk (Kd.R_below HR1.out hb_); replace SZ1 := Aside0.mk (Nat.lt_of_lt_of_le SZ1.out (Below.size hb_)); replace BK1 := Aside0.mk ((Below.block hb_ _ (blk_lt BK1.out)).trans BK1.out); replace HO1 := Aside0.mk (Kd.R_below HO1.out hb_); replace HS0 := Aside0.mk (Kd.S_below HS0.out hb_); replace HR0 := Aside0.mk (Kd.R_below HR0.out hb_); replace SZ0 := Aside0.mk (Nat.lt_of_lt_of_le SZ0.out (Below.size hb_)); replace BK0 := Aside0.mk ((Below.block hb_ _ (blk_lt BK0.out)).trans BK0.out); replace HS2 := Aside0.mk (Kd.S_below HS2.out hb_); replace HR2 := Aside0.mk (Kd.R_below HR2.out hb_); replace SZ2 := Aside0.mk (Nat.lt_of_lt_of_le SZ2.out (Below.size hb_)); replace BK2 := Aside0.mk ((Below.block hb_ _ (blk_lt BK2.out)).trans BK2.out); replace HO2 := Aside0.mk (Kd.R_below HO2.out hb_); replace SZA := Aside0.mk (Nat.lt_of_lt_of_le SZA.out (Below.size hb_)); replace BKA := Aside0.mk ((Below.block hb_ _ (blk_lt BKA.out)).trans BKA.out); replace HB := Aside0.mk (below_step HB.out hb_); clear hb_ hd_)
  have HDr := Aside0.mk (below_drew1 (Below.refl wq4.heap.size wq4))
  replace HS1 := Aside0.mk (Kd.S_below HS1.out HDr.out)
  replace HR1 := Aside0.mk (Kd.R_below HR1.out HDr.out)
  replace SZ1 := Aside0.mk (Nat.lt_of_lt_of_le SZ1.out (Below.size HDr.out))
  replace BK1 := Aside0.mk ((Below.block HDr.out _ (blk_lt BK1.out)).trans BK1.out)
  replace HO1 := Aside0.mk (Kd.R_below HO1.out HDr.out)
  replace HS0 := Aside0.mk (Kd.S_below HS0.out HDr.out)
  replace HR0 := Aside0.mk (Kd.R_below HR0.out HDr.out)
  replace SZ0 := Aside0.mk (Nat.lt_of_lt_of_le SZ0.out (Below.size HDr.out))
  replace BK0 := Aside0.mk ((Below.block HDr.out _ (blk_lt BK0.out)).trans BK0.out)
  replace HS2 := Aside0.mk (Kd.S_below HS2.out HDr.out)
  replace HR2 := Aside0.mk (Kd.R_below HR2.out HDr.out)
  replace SZ2 := Aside0.mk (Nat.lt_of_lt_of_le SZ2.out (Below.size HDr.out))
  replace BK2 := Aside0.mk ((Below.block HDr.out _ (blk_lt BK2.out)).trans BK2.out)
  replace HO2 := Aside0.mk (Kd.R_below HO2.out HDr.out)
  replace SZA := Aside0.mk (Nat.lt_of_lt_of_le SZA.out (Below.size HDr.out))
  replace BKA := Aside0.mk ((Below.block HDr.out _ (blk_lt BKA.out)).trans BKA.out)
  replace HB := Aside0.mk (below_step HB.out HDr.out)
  clear HDr
  refine start_ (n := 5) (S := fun w' => w'.cell? ⟨gb0, 0, none⟩ = some (Value.int .i64 a0) ∧ w'.cell? ⟨gb0, 1, none⟩ = some (.slice A0 (cs).length c0) ∧ w'.cell? ⟨gb0, 2, none⟩ = some (.slice D0 (ts).length d0) ∧ w'.cell? ⟨gbA, 0, none⟩ = some (Value.int .i64 a0) ∧ w'.cell? ⟨gbA, 1, none⟩ = some (.slice Aa l1.length ca) ∧ w'.cell? ⟨gbA, 2, none⟩ = some (.slice Ab l2.length cb)) (ds := []) #[false, false, false, false, false] (by kernel_rfl) rfl rfl ⟨(blk_cell BK0.out 0).trans rfl, (blk_cell BK0.out 1).trans rfl, (blk_cell BK0.out 2).trans rfl, (blk_cell BKA.out 0).trans rfl, (blk_cell BKA.out 1).trans rfl, (blk_cell BKA.out 2).trans rfl⟩ (fun hHeld => ?_)
  generalize wq4.drew = wd at HS1 HR1 BK1 SZ1 HO1 HS0 HR0 BK0 SZ0 HS2 HR2 BK2 SZ2 HO2 BKA SZA HB hHeld ⊢
  refine take_ (i := 0) (N := some 52) (v := ?_) (a' := ?_) #[true, false, false, false, false] rfl rfl (by kernel_rfl) (fun _ _ _ h => h) (Or.inl ⟨by rfl, ?_⟩) hHeld ?_ ?_
  rotate_left
  · rintro w' ⟨s0, s1, s2, s3, s4, s5⟩
    go_simp
    with_reducible rfl
  rotate_left
  · simp only [Act.put, List.setIfInBounds_toArray, List.set_cons_zero, List.set_cons_succ, i64_w, i32_w]
    rfl
  refine take_ (i := 1) (N := some 53) (v := ?_) (a' := ?_) #[true, true, false, false, false] rfl rfl (by kernel_rfl) (fun _ _ _ h => h) (Or.inl ⟨by rfl, ?_⟩) hHeld ?_ ?_
  rotate_left
  · rintro w' ⟨s0, s1, s2, s3, s4, s5⟩
    go_simp
    with_reducible rfl
  rotate_left
  · simp only [Act.put, List.setIfInBounds_toArray, List.set_cons_zero, List.set_cons_succ, i64_w, i32_w]
    rfl
  refine one_ (i := 2) (N := some 54) #[true, true, true, false, false] rfl rfl (by kernel_rfl) (by decide) (fun K_ hK_ => ?_)
  refine goes_ Try.func15 (by kernel_rfl) rfl #[.agg #[.int .i64 a0, .slice Aa l1.length ca, .slice Ab l2.length cb]] (by rfl) rfl rfl (by simp only [List.map_toArray, List.map_cons, List.map_nil]; rfl) ?_
  with_reducible refine (laws_toMem.calls K a0 Aa ca l1 Ab cb l2 a0 cs ts _ (Kd.C_below HC1.out HB.out) HL1.out (Kd.C_below HC2.out HB.out) HL2.out HTM.out).mono ?_
  rintro e wt ⟨u1, u2, rfl, hSt, hRt, hbt⟩
  refine ⟨_, rfl, ?_⟩
  obtain ⟨At, ct, rfl⟩ := Kd.S_slice hSt
  obtain ⟨Dt, dt, rfl⟩ := Kd.R_slice hRt
  replace HS1 := Aside0.mk (Kd.S_below HS1.out hbt)
  replace HR1 := Aside0.mk (Kd.R_below HR1.out hbt)
  replace SZ1 := Aside0.mk (Nat.lt_of_lt_of_le SZ1.out (Below.size hbt))
  replace BK1 := Aside0.mk ((Below.block hbt _ (blk_lt BK1.out)).trans BK1.out)
  replace HO1 := Aside0.mk (Kd.R_below HO1.out hbt)
  replace HS0 := Aside0.mk (Kd.S_below HS0.out hbt)
  replace HR0 := Aside0.mk (Kd.R_below HR0.out hbt)
  replace SZ0 := Aside0.mk (Nat.lt_of_lt_of_le SZ0.out (Below.size hbt))
  replace BK0 := Aside0.mk ((Below.block hbt _ (blk_lt BK0.out)).trans BK0.out)
  replace HS2 := Aside0.mk (Kd.S_below HS2.out hbt)
  replace HR2 := Aside0.mk (Kd.R_below HR2.out hbt)
  replace SZ2 := Aside0.mk (Nat.lt_of_lt_of_le SZ2.out (Below.size hbt))
  replace BK2 := Aside0.mk ((Below.block hbt _ (blk_lt BK2.out)).trans BK2.out)
  replace HO2 := Aside0.mk (Kd.R_below HO2.out hbt)
  replace SZA := Aside0.mk (Nat.lt_of_lt_of_le SZA.out (Below.size hbt))
  replace BKA := Aside0.mk ((Below.block hbt _ (blk_lt BKA.out)).trans BKA.out)
  replace HB := Aside0.mk (below_step HB.out hbt)
  have HSt := Aside0.mk hSt
  have HRt := Aside0.mk hRt
  clear hSt hRt hbt
  refine hK_.out _ _ ⟨(blk_cell BK0.out 0).trans rfl, (blk_cell BK0.out 1).trans rfl, (blk_cell BK0.out 2).trans rfl, (blk_cell BKA.out 0).trans rfl, (blk_cell BKA.out 1).trans rfl, (blk_cell BKA.out 2).trans rfl⟩ (fun hHeld => ?_)
  clear hK_ K_
  refine norm_ (a' := ?_) ?_ ?_
  rotate_left
  · show Act.put _ (some 54) _ = _
    simp only [Act.put, List.setIfInBounds_toArray, List.set_cons_zero, List.set_cons_succ, i64_w, i32_w]
    rfl
  refine one_ (i := 3) (N := some 55) #[true, true, true, true, false] rfl rfl (by kernel_rfl) (by decide) (fun K_ hK_ => ?_)
  refine goes_ Try.func10 (by kernel_rfl) rfl #[.agg #[Value.int .i64 a0, .slice A0 (cs).length c0, .slice D0 (ts).length d0], .agg #[.int .i64 a0, .slice At cs.length ct, .slice Dt ts.length dt]] (by rfl) rfl rfl (by simp only [List.map_toArray, List.map_cons, List.map_nil]; rfl) ?_
  with_reducible refine (laws_eqMem.calls K a0 _ _ cs _ _ ts a0 _ _ cs _ _ ts true _ (Kd.S_reads' HS0.out).2.2 (Kd.S_reads' HS0.out).2.1 (Kd.R_reads' HR0.out).2.2 (Kd.R_reads' HR0.out).2.1 (Kd.S_reads' HSt.out).2.2 (Kd.S_reads' HSt.out).2.1 (Kd.R_reads' HRt.out).2.2 (Kd.R_reads' HRt.out).2.1 HEX.out).mono ?_
  rintro e wf ⟨rfl, hb_⟩
  refine ⟨_, rfl, ?_⟩
  replace HS1 := Aside0.mk (Kd.S_below HS1.out hb_)
  replace HR1 := Aside0.mk (Kd.R_below HR1.out hb_)
  replace SZ1 := Aside0.mk (Nat.lt_of_lt_of_le SZ1.out (Below.size hb_))
  replace BK1 := Aside0.mk ((Below.block hb_ _ (blk_lt BK1.out)).trans BK1.out)
  replace HO1 := Aside0.mk (Kd.R_below HO1.out hb_)
  replace HS0 := Aside0.mk (Kd.S_below HS0.out hb_)
  replace HR0 := Aside0.mk (Kd.R_below HR0.out hb_)
  replace SZ0 := Aside0.mk (Nat.lt_of_lt_of_le SZ0.out (Below.size hb_))
  replace BK0 := Aside0.mk ((Below.block hb_ _ (blk_lt BK0.out)).trans BK0.out)
  replace HS2 := Aside0.mk (Kd.S_below HS2.out hb_)
  replace HR2 := Aside0.mk (Kd.R_below HR2.out hb_)
  replace SZ2 := Aside0.mk (Nat.lt_of_lt_of_le SZ2.out (Below.size hb_))
  replace BK2 := Aside0.mk ((Below.block hb_ _ (blk_lt BK2.out)).trans BK2.out)
  replace HO2 := Aside0.mk (Kd.R_below HO2.out hb_)
  replace SZA := Aside0.mk (Nat.lt_of_lt_of_le SZA.out (Below.size hb_))
  replace BKA := Aside0.mk ((Below.block hb_ _ (blk_lt BKA.out)).trans BKA.out)
  replace HB := Aside0.mk (below_step HB.out hb_)
  clear hb_ HSt HRt
  refine hK_.out _ _ ⟨(blk_cell BK0.out 0).trans rfl, (blk_cell BK0.out 1).trans rfl, (blk_cell BK0.out 2).trans rfl, (blk_cell BKA.out 0).trans rfl, (blk_cell BKA.out 1).trans rfl, (blk_cell BKA.out 2).trans rfl⟩ (fun hHeld => ?_)
  clear hK_ K_
  refine norm_ (a' := ?_) ?_ ?_
  rotate_left
  · show Act.put _ (some 55) _ = _
    simp only [Act.put, List.setIfInBounds_toArray, List.set_cons_zero, List.set_cons_succ, i64_w, i32_w]
    rfl
  refine pure_ (i := 4) (N := some 56) (v := ?_) (a' := ?_) #[true, true, true, true, true] rfl rfl (by kernel_rfl) (fun _ _ _ h => h) (Or.inl ⟨by rfl, ?_⟩) ?_ ?_
  rotate_left
  · intro w'
    go_simp
    with_reducible rfl
  rotate_left
  · simp only [Act.put, List.setIfInBounds_toArray, List.set_cons_zero, List.set_cons_succ, i64_w, i32_w]
    rfl
  refine done_ (by kernel_rfl) ?_
  have hcz0_0 : wf.cell? ⟨gb0, 0, none⟩ = some (.int .i64 a0) := (blk_cell BK0.out 0).trans rfl
  have hcz0_1 : wf.cell? ⟨gb0, 1, none⟩ = some (.slice A0 (cs).length c0) := (blk_cell BK0.out 1).trans rfl
  have hcz0_2 : wf.cell? ⟨gb0, 2, none⟩ = some (.slice D0 (ts).length d0) := (blk_cell BK0.out 2).trans rfl
  go_wp2_with (go_at_call 11; refine (markMem_calls K (by have := hK.out; omega) a0 1 cs ts (by decide) (by decide) (by have := Y3.out; omega) Y1.out Y4.out Y2.out (fun k => W1.heap.size ≤ k ∧ k < gb0) (.slice A0 (cs).length c0) (.slice D0 (ts).length d0) w _ HB.out HS0.out HR0.out).mono ?_; rintro e W6 ⟨rfl, hS_, hR_, hB_, hK_⟩; rw [HKV.out]; replace HS1 := Aside0.mk (Kd.S_kept HS1.out hK_ (fun k hk hp => by obtain ⟨a1_, a2_⟩ := hk; obtain ⟨b1_, b2_⟩ := hp; have h_ := OR_1_0.out; omega)); replace HR1 := Aside0.mk (Kd.R_kept HR1.out hK_ (fun k hk hp => by obtain ⟨a1_, a2_⟩ := hk; obtain ⟨b1_, b2_⟩ := hp; have h_ := OR_1_0.out; omega)); replace HO1 := Aside0.mk (Kd.R_kept HO1.out hK_ (fun k hk hp => by obtain ⟨a1_, a2_⟩ := hk; obtain ⟨b1_, b2_⟩ := hp; have h_ := OR_1_0.out; omega)); replace BK1 := Aside0.mk (blk_kept BK1.out hK_ (fun h_ => by obtain ⟨b1_, b2_⟩ := h_; have q_ := OR_1_0.out; have l_ := LG1.out; omega)); replace SZ1 := Aside0.mk (Nat.lt_of_lt_of_le SZ1.out hK_.1); replace HS0 := Aside0.mk (hS_); replace HR0 := Aside0.mk (hR_); replace BK0 := Aside0.mk (blk_kept BK0.out hK_ (fun h_ => absurd h_.2 (Nat.lt_irrefl _))); replace SZ0 := Aside0.mk (Nat.lt_of_lt_of_le SZ0.out hK_.1); replace HS2 := Aside0.mk (Kd.S_kept HS2.out hK_ (fun k hk hp => by obtain ⟨a1_, a2_⟩ := hk; obtain ⟨b1_, b2_⟩ := hp; have h_ := OR_0_2.out; omega)); replace HR2 := Aside0.mk (Kd.R_kept HR2.out hK_ (fun k hk hp => by obtain ⟨a1_, a2_⟩ := hk; obtain ⟨b1_, b2_⟩ := hp; have h_ := OR_0_2.out; omega)); replace HO2 := Aside0.mk (Kd.R_kept HO2.out hK_ (fun k hk hp => by obtain ⟨a1_, a2_⟩ := hk; obtain ⟨b1_, b2_⟩ := hp; have h_ := OR_0_2.out; omega)); replace BK2 := Aside0.mk (blk_kept BK2.out hK_ (fun h_ => by obtain ⟨b1_, b2_⟩ := h_; have q_ := OR_0_2.out; have l_ := LG2.out; omega)); replace SZ2 := Aside0.mk (Nat.lt_of_lt_of_le SZ2.out hK_.1); replace BKA := Aside0.mk (blk_kept BKA.out hK_ (fun h_ => by obtain ⟨b1_, b2_⟩ := h_; have q_ := KA_0.out; omega)); replace SZA := Aside0.mk (Nat.lt_of_lt_of_le SZA.out hK_.1); replace HB := Aside0.mk (hB_); clear hS_ hR_ hB_ hK_ hcz0_0 hcz0_1 hcz0_2; have hcz2_0 : W6.cell? ⟨gb2, 0, none⟩ = some (.int .i64 m0) := (blk_cell BK2.out 0).trans rfl; have hcz2_1 : W6.cell? ⟨gb2, 1, none⟩ = some (.slice A2 (rc).length c2) := (blk_cell BK2.out 1).trans rfl; have hcz2_2 : W6.cell? ⟨gb2, 2, none⟩ = some (.slice D2 (rt).length d2) := (blk_cell BK2.out 2).trans rfl; have hcz1_0 : W6.cell? ⟨gb1, 0, none⟩ = some (.int .i64 m0) := (blk_cell BK1.out 0).trans rfl; have hcz1_1 : W6.cell? ⟨gb1, 1, none⟩ = some (.slice A1 (rc).length c1) := (blk_cell BK1.out 1).trans rfl; have hcz1_2 : W6.cell? ⟨gb1, 2, none⟩ = some (.slice D1 (rt).length d1) := (blk_cell BK1.out 2).trans rfl)
  go_wp2_with (go_at_call 10; refine (laws_eqMem.calls K m0 _ _ rc _ _ rt m0 _ _ rc _ _ rt true _ (Kd.S_reads' HS2.out).2.2 (Kd.S_reads' HS2.out).2.1 (Kd.R_reads' HR2.out).2.2 (Kd.R_reads' HR2.out).2.1 (Kd.S_reads' HS1.out).2.2 (Kd.S_reads' HS1.out).2.1 (Kd.R_reads' HR1.out).2.2 (Kd.R_reads' HR1.out).2.1 HEQ.out).mono ?_; rintro e we6 ⟨rfl, hb_⟩; clear hcz2_0 hcz2_1 hcz2_2 hcz1_0 hcz1_1 hcz1_2; replace HS1 := Aside0.mk (Kd.S_below HS1.out hb_); replace HR1 := Aside0.mk (Kd.R_below HR1.out hb_); replace SZ1 := Aside0.mk (Nat.lt_of_lt_of_le SZ1.out (Below.size hb_)); replace BK1 := Aside0.mk ((Below.block hb_ _ (blk_lt BK1.out)).trans BK1.out); replace HO1 := Aside0.mk (Kd.R_below HO1.out hb_); replace HS0 := Aside0.mk (Kd.S_below HS0.out hb_); replace HR0 := Aside0.mk (Kd.R_below HR0.out hb_); replace SZ0 := Aside0.mk (Nat.lt_of_lt_of_le SZ0.out (Below.size hb_)); replace BK0 := Aside0.mk ((Below.block hb_ _ (blk_lt BK0.out)).trans BK0.out); replace HS2 := Aside0.mk (Kd.S_below HS2.out hb_); replace HR2 := Aside0.mk (Kd.R_below HR2.out hb_); replace SZ2 := Aside0.mk (Nat.lt_of_lt_of_le SZ2.out (Below.size hb_)); replace BK2 := Aside0.mk ((Below.block hb_ _ (blk_lt BK2.out)).trans BK2.out); replace HO2 := Aside0.mk (Kd.R_below HO2.out hb_); replace SZA := Aside0.mk (Nat.lt_of_lt_of_le SZA.out (Below.size hb_)); replace BKA := Aside0.mk ((Below.block hb_ _ (blk_lt BKA.out)).trans BKA.out); replace HB := Aside0.mk (below_step HB.out hb_); clear hb_)
  go_wp2_with (go_at_call 19; refine (laws_eqByteS.calls K _ _ rb _ _ rb true _ (Kd.R_reads' HO2.out).2.2 (Kd.R_reads' HO2.out).2.1 (Kd.R_reads' HO1.out).2.2 (Kd.R_reads' HO1.out).2.1 HEB.out).mono ?_; rintro e wq7 ⟨rfl, hd_⟩; have hb_ := hd_.below; replace HS1 := Aside0.mk (Kd.S_below HS1.out hb_); replace HR1 := Aside0.mk (Kd.R_below HR1.out hb_); replace SZ1 := Aside0.mk (Nat.lt_of_lt_of_le SZ1.out (Below.size hb_)); replace BK1 := Aside0.mk ((Below.block hb_ _ (blk_lt BK1.out)).trans BK1.out); replace HO1 := Aside0.mk (Kd.R_below HO1.out hb_); replace HS0 := Aside0.mk (Kd.S_below HS0.out hb_); replace HR0 := Aside0.mk (Kd.R_below HR0.out hb_); replace SZ0 := Aside0.mk (Nat.lt_of_lt_of_le SZ0.out (Below.size hb_)); replace BK0 := Aside0.mk ((Below.block hb_ _ (blk_lt BK0.out)).trans BK0.out); replace HS2 := Aside0.mk (Kd.S_below HS2.out hb_); replace HR2 := Aside0.mk (Kd.R_below HR2.out hb_); replace SZ2 := Aside0.mk (Nat.lt_of_lt_of_le SZ2.out (Below.size hb_)); replace BK2 := Aside0.mk ((Below.block hb_ _ (blk_lt BK2.out)).trans BK2.out); replace HO2 := Aside0.mk (Kd.R_below HO2.out hb_); replace SZA := Aside0.mk (Nat.lt_of_lt_of_le SZA.out (Below.size hb_)); replace BKA := Aside0.mk ((Below.block hb_ _ (blk_lt BKA.out)).trans BKA.out); replace HB := Aside0.mk (below_step HB.out hb_); have hcz2_0 : wq7.cell? ⟨gb2, 0, none⟩ = some (.int .i64 m0) := (blk_cell BK2.out 0).trans rfl; have hcz2_1 : wq7.cell? ⟨gb2, 1, none⟩ = some (.slice A2 (rc).length c2) := (blk_cell BK2.out 1).trans rfl; have hcz2_2 : wq7.cell? ⟨gb2, 2, none⟩ = some (.slice D2 (rt).length d2) := (blk_cell BK2.out 2).trans rfl; clear hb_ hd_)
  go_wp2_with (go_at_call 11; refine (markMem_calls K (by have := hK.out; omega) m0 1 rc rt (by decide) (by decide) (by have := Z3.out; omega) Z1.out Z4.out Z2.out (fun k => W2.heap.size ≤ k ∧ k < gb2 ∧ some k ≠ (.slice E2 (rb).length e2 : Value).ownBlock) (.slice A2 (rc).length c2) (.slice D2 (rt).length d2) w _ HB.out HS2.out HR2.out).mono ?_; rintro e W9 ⟨rfl, hS_, hR_, hB_, hK_⟩; rw [HMV.out]; replace HS1 := Aside0.mk (Kd.S_kept HS1.out hK_ (fun k hk hp => by obtain ⟨a1_, a2_⟩ := hk; obtain ⟨b1_, b2_⟩ := hp; have h_ := OR_1_2.out; omega)); replace HR1 := Aside0.mk (Kd.R_kept HR1.out hK_ (fun k hk hp => by obtain ⟨a1_, a2_⟩ := hk; obtain ⟨b1_, b2_⟩ := hp; have h_ := OR_1_2.out; omega)); replace HO1 := Aside0.mk (Kd.R_kept HO1.out hK_ (fun k hk hp => by obtain ⟨a1_, a2_⟩ := hk; obtain ⟨b1_, b2_⟩ := hp; have h_ := OR_1_2.out; omega)); replace BK1 := Aside0.mk (blk_kept BK1.out hK_ (fun h_ => by obtain ⟨b1_, b2_⟩ := h_; have q_ := OR_1_2.out; have l_ := LG1.out; omega)); replace SZ1 := Aside0.mk (Nat.lt_of_lt_of_le SZ1.out hK_.1); replace HS0 := Aside0.mk (Kd.S_kept HS0.out hK_ (fun k hk hp => by obtain ⟨a1_, a2_⟩ := hk; obtain ⟨b1_, b2_⟩ := hp; have h_ := OR_0_2.out; omega)); replace HR0 := Aside0.mk (Kd.R_kept HR0.out hK_ (fun k hk hp => by obtain ⟨a1_, a2_⟩ := hk; obtain ⟨b1_, b2_⟩ := hp; have h_ := OR_0_2.out; omega)); replace BK0 := Aside0.mk (blk_kept BK0.out hK_ (fun h_ => by obtain ⟨b1_, b2_⟩ := h_; have q_ := OR_0_2.out; have l_ := LG0.out; omega)); replace SZ0 := Aside0.mk (Nat.lt_of_lt_of_le SZ0.out hK_.1); replace HS2 := Aside0.mk (hS_); replace HR2 := Aside0.mk (hR_); replace HO2 := Aside0.mk (Kd.R_kept HO2.out hK_ (fun k hk hp => hp.2.2 hk.2.2)); replace BK2 := Aside0.mk (blk_kept BK2.out hK_ (fun h_ => absurd h_.2.1 (Nat.lt_irrefl _))); replace SZ2 := Aside0.mk (Nat.lt_of_lt_of_le SZ2.out hK_.1); replace BKA := Aside0.mk (blk_kept BKA.out hK_ (fun h_ => by obtain ⟨b1_, b2_⟩ := h_; have q_ := KA_2.out; omega)); replace SZA := Aside0.mk (Nat.lt_of_lt_of_le SZA.out hK_.1); replace HB := Aside0.mk (hB_); clear hS_ hR_ hB_ hK_ hcz2_0 hcz2_1 hcz2_2)
  go_wp2_with (go_at_call 20; refine (laws_markByteS.calls K (fun k => W2.heap.size ≤ k ∧ k < gb2 ∧ some k = (.slice E2 (rb).length e2 : Value).ownBlock) (.slice E2 (rb).length e2 : Value) rb mv mw (markL mv (rb).length) w _ HB.out HO2.out HMB.out).mono ?_; rintro e W10 ⟨rfl, hQ_, hB_, hK_⟩; have hO_ : Kd.R (Kd.int .u8) 5 W10 w.heap.size (fun k => W2.heap.size ≤ k ∧ k < gb2 ∧ some k = (.slice E2 (rb).length e2 : Value).ownBlock) (.slice E2 (rb).length e2 : Value) (markL mv (rb).length) := ⟨HO2.out.1, hQ_.2⟩; replace HS1 := Aside0.mk (Kd.S_kept HS1.out hK_ (fun k hk hp => by obtain ⟨a1_, a2_⟩ := hk; obtain ⟨b1_, b2_⟩ := hp; have h_ := OR_1_2.out; omega)); replace HR1 := Aside0.mk (Kd.R_kept HR1.out hK_ (fun k hk hp => by obtain ⟨a1_, a2_⟩ := hk; obtain ⟨b1_, b2_⟩ := hp; have h_ := OR_1_2.out; omega)); replace HO1 := Aside0.mk (Kd.R_kept HO1.out hK_ (fun k hk hp => by obtain ⟨a1_, a2_⟩ := hk; obtain ⟨b1_, b2_⟩ := hp; have h_ := OR_1_2.out; omega)); replace BK1 := Aside0.mk (blk_kept BK1.out hK_ (fun h_ => by obtain ⟨b1_, b2_⟩ := h_; have q_ := OR_1_2.out; have l_ := LG1.out; omega)); replace SZ1 := Aside0.mk (Nat.lt_of_lt_of_le SZ1.out hK_.1); replace HS0 := Aside0.mk (Kd.S_kept HS0.out hK_ (fun k hk hp => by obtain ⟨a1_, a2_⟩ := hk; obtain ⟨b1_, b2_⟩ := hp; have h_ := OR_0_2.out; omega)); replace HR0 := Aside0.mk (Kd.R_kept HR0.out hK_ (fun k hk hp => by obtain ⟨a1_, a2_⟩ := hk; obtain ⟨b1_, b2_⟩ := hp; have h_ := OR_0_2.out; omega)); replace BK0 := Aside0.mk (blk_kept BK0.out hK_ (fun h_ => by obtain ⟨b1_, b2_⟩ := h_; have q_ := OR_0_2.out; have l_ := LG0.out; omega)); replace SZ0 := Aside0.mk (Nat.lt_of_lt_of_le SZ0.out hK_.1); replace HS2 := Aside0.mk (Kd.S_kept HS2.out hK_ (fun k hk hp => hk.2.2 hp.2.2)); replace HR2 := Aside0.mk (Kd.R_kept HR2.out hK_ (fun k hk hp => hk.2.2 hp.2.2)); replace HO2 := Aside0.mk (hO_); replace BK2 := Aside0.mk (blk_kept BK2.out hK_ (fun h_ => absurd h_.2.1 (Nat.lt_irrefl _))); replace SZ2 := Aside0.mk (Nat.lt_of_lt_of_le SZ2.out hK_.1); replace BKA := Aside0.mk (blk_kept BKA.out hK_ (fun h_ => by obtain ⟨b1_, b2_⟩ := h_; have q_ := KA_2.out; omega)); replace SZA := Aside0.mk (Nat.lt_of_lt_of_le SZA.out hK_.1); replace HB := Aside0.mk (hB_); clear hO_ hQ_ hB_ hK_ ; have hcz2_0 : W10.cell? ⟨gb2, 0, none⟩ = some (.int .i64 m0) := (blk_cell BK2.out 0).trans rfl; have hcz2_1 : W10.cell? ⟨gb2, 1, none⟩ = some (.slice A2 (rc).length c2) := (blk_cell BK2.out 1).trans rfl; have hcz2_2 : W10.cell? ⟨gb2, 2, none⟩ = some (.slice D2 (rt).length d2) := (blk_cell BK2.out 2).trans rfl)
  go_wp2_with (go_at_call 12; refine (heldMem_calls K m0 1 ((1 + (sumC rc : Int))) rc (rt.length) _ HS2.out HR2.out mv HHL.out).mono ?_; rintro e wh10 ⟨rfl, hb_⟩; clear hcz2_0 hcz2_1 hcz2_2; replace HS1 := Aside0.mk (Kd.S_below HS1.out hb_); replace HR1 := Aside0.mk (Kd.R_below HR1.out hb_); replace SZ1 := Aside0.mk (Nat.lt_of_lt_of_le SZ1.out (Below.size hb_)); replace BK1 := Aside0.mk ((Below.block hb_ _ (blk_lt BK1.out)).trans BK1.out); replace HO1 := Aside0.mk (Kd.R_below HO1.out hb_); replace HS0 := Aside0.mk (Kd.S_below HS0.out hb_); replace HR0 := Aside0.mk (Kd.R_below HR0.out hb_); replace SZ0 := Aside0.mk (Nat.lt_of_lt_of_le SZ0.out (Below.size hb_)); replace BK0 := Aside0.mk ((Below.block hb_ _ (blk_lt BK0.out)).trans BK0.out); replace HS2 := Aside0.mk (Kd.S_below HS2.out hb_); replace HR2 := Aside0.mk (Kd.R_below HR2.out hb_); replace SZ2 := Aside0.mk (Nat.lt_of_lt_of_le SZ2.out (Below.size hb_)); replace BK2 := Aside0.mk ((Below.block hb_ _ (blk_lt BK2.out)).trans BK2.out); replace HO2 := Aside0.mk (Kd.R_below HO2.out hb_); replace SZA := Aside0.mk (Nat.lt_of_lt_of_le SZA.out (Below.size hb_)); replace BKA := Aside0.mk ((Below.block hb_ _ (blk_lt BKA.out)).trans BKA.out); replace HB := Aside0.mk (below_step HB.out hb_); clear hb_)
  go_wp2_with (go_at_call 21; refine (heldByteS_calls K mv (rb).length mw _ HO2.out HHB.out).mono ?_; rintro e wb11 ⟨rfl, hd_⟩; have hb_ := hd_.below; replace HS1 := Aside0.mk (Kd.S_below HS1.out hb_); replace HR1 := Aside0.mk (Kd.R_below HR1.out hb_); replace SZ1 := Aside0.mk (Nat.lt_of_lt_of_le SZ1.out (Below.size hb_)); replace BK1 := Aside0.mk ((Below.block hb_ _ (blk_lt BK1.out)).trans BK1.out); replace HO1 := Aside0.mk (Kd.R_below HO1.out hb_); replace HS0 := Aside0.mk (Kd.S_below HS0.out hb_); replace HR0 := Aside0.mk (Kd.R_below HR0.out hb_); replace SZ0 := Aside0.mk (Nat.lt_of_lt_of_le SZ0.out (Below.size hb_)); replace BK0 := Aside0.mk ((Below.block hb_ _ (blk_lt BK0.out)).trans BK0.out); replace HS2 := Aside0.mk (Kd.S_below HS2.out hb_); replace HR2 := Aside0.mk (Kd.R_below HR2.out hb_); replace SZ2 := Aside0.mk (Nat.lt_of_lt_of_le SZ2.out (Below.size hb_)); replace BK2 := Aside0.mk ((Below.block hb_ _ (blk_lt BK2.out)).trans BK2.out); replace HO2 := Aside0.mk (Kd.R_below HO2.out hb_); replace SZA := Aside0.mk (Nat.lt_of_lt_of_le SZA.out (Below.size hb_)); replace BKA := Aside0.mk ((Below.block hb_ _ (blk_lt BKA.out)).trans BKA.out); replace HB := Aside0.mk (below_step HB.out hb_); have hczA_0 : wb11.cell? ⟨gbA, 0, none⟩ = some (Value.int .i64 a0) := (blk_cell BKA.out 0).trans rfl; have hczA_1 : wb11.cell? ⟨gbA, 1, none⟩ = some (.slice Aa l1.length ca) := (blk_cell BKA.out 1).trans rfl; have hczA_2 : wb11.cell? ⟨gbA, 2, none⟩ = some (.slice Ab l2.length cb) := (blk_cell BKA.out 2).trans rfl; clear hb_ hd_)
  have TOK3 := Aside0.mk trivial
  go_wp2_with (first | (clear TOK3; go_at_call 15; refine (laws_toMem.calls K a0 Aa ca l1 Ab cb l2 a0 cs ts _ (Kd.C_below HC1.out HB.out) HL1.out (Kd.C_below HC2.out HB.out) HL2.out HTM.out).mono ?_; rintro e t3 ⟨u3_1, u3_2, rfl, hS3, hR3, hb3⟩; obtain ⟨At3, ct3, rfl⟩ := Kd.S_slice hS3; obtain ⟨Dt3, dt3, rfl⟩ := Kd.R_slice hR3; have HT3 := Aside0.mk (And.intro hS3 (And.intro hR3 hb3)); clear hS3 hR3 hb3) | (go_at_call 23; refine (implMemSweep_calls' a0 _ _ cs _ _ ts m0 rk rc rt rb _ (Kd.S_reads' HT3.out.1).2.2 (Kd.S_reads' HT3.out.1).2.1 (Kd.R_reads' HT3.out.2.1).2.2 (Kd.R_reads' HT3.out.2.1).2.1 HF.out).mono ?_; rintro e w3 ⟨v3_1, v3_2, v3_3, rfl, hS3, hR3, hO3, hb3⟩; obtain ⟨A3, c3, rfl⟩ := Kd.S_slice hS3; obtain ⟨D3, d3, rfl⟩ := Kd.R_slice hR3; obtain ⟨E3, e3, rfl⟩ := Kd.R_slice hO3; have HN3 := Aside0.mk (And.intro (Kd.S_lower hS3 (Below.size HT3.out.2.2)) (And.intro (Kd.R_lower hR3 (Below.size HT3.out.2.2)) (And.intro (Kd.R_lower hO3 (Below.size HT3.out.2.2)) (below_step HT3.out.2.2 hb3)))); clear hS3 hR3 hO3 hb3) | ((with_reducible refine gate_dst (N := 14) rfl ?_); refine box_event ?hg (N := 14) ?hd (cs := #[.int .i64 0, .slice none 0 0, .slice none 0 0]) (t := 25) ?hr ?_; (case hd => rfl); (case hg => rfl); (case hr => first | (go_simp; done) | (go_simp; rfl)); intro gb3 hg3 wA3 hbox3 hbA3; have HA3 := Aside0.mk (And.intro hg3 (And.intro hbox3 hbA3)); have hfa_0 := blk_frozen hbox3 0; have hfa_1 := blk_frozen hbox3 1; have hfa_2 := blk_frozen hbox3 2; have hca_0 : wA3.cell? ⟨gb3, 0, none⟩ = some (.int .i64 0) := (blk_cell hbox3 0).trans rfl; have hca_1 : wA3.cell? ⟨gb3, 1, none⟩ = some (.slice none 0 0) := (blk_cell hbox3 1).trans rfl; have hca_2 : wA3.cell? ⟨gb3, 2, none⟩ = some (.slice none 0 0) := (blk_cell hbox3 2).trans rfl; clear hg3 hbox3 hbA3) | ((with_reducible refine gate_store (t := 25) (p := 14) rfl ?_); refine store_event (t := 25) (p := 14) (v := ?vo_3) (w1 := ((wA3.setCell ⟨gb3, 0, none⟩ (.int .i64 m0)).setCell ⟨gb3, 1, none⟩ (.slice A3 (rc).length c3)).setCell ⟨gb3, 2, none⟩ (.slice D3 (rt).length d3)) ?hg ?ho ?hn ?hr ?_; (case ho => rfl); (case hg => rfl); (case hn => rfl); (case hr => first | (go_simp; done) | (go_simp; rfl)); intro W13 hW3; obtain ⟨hq1_, hq2_, hq3_, hq4_, hq5_, hq6_, hq7_, hq8_⟩ := mem_newX (w := w) (W := wb11) (w1 := w3) (a := m0) HB.out HN3.out.2.2.2 HN3.out.1 HN3.out.2.1 HN3.out.2.2.1 HA3.out.1 HA3.out.2.1 HA3.out.2.2 hW3; have OR_1_3 := Aside0.mk (show gb1 < wb11.heap.size from SZ1.out); have OR_0_3 := Aside0.mk (show gb0 < wb11.heap.size from SZ0.out); have OR_2_3 := Aside0.mk (show gb2 < wb11.heap.size from SZ2.out); have KA_3 := Aside0.mk (show gbA < wb11.heap.size from SZA.out); clear hczA_0 hczA_1 hczA_2; replace HS1 := Aside0.mk (Kd.S_below HS1.out hq2_); replace HR1 := Aside0.mk (Kd.R_below HR1.out hq2_); replace SZ1 := Aside0.mk (Nat.lt_of_lt_of_le SZ1.out (Below.size hq2_)); replace BK1 := Aside0.mk ((Below.block hq2_ _ (blk_lt BK1.out)).trans BK1.out); replace HO1 := Aside0.mk (Kd.R_below HO1.out hq2_); replace HS0 := Aside0.mk (Kd.S_below HS0.out hq2_); replace HR0 := Aside0.mk (Kd.R_below HR0.out hq2_); replace SZ0 := Aside0.mk (Nat.lt_of_lt_of_le SZ0.out (Below.size hq2_)); replace BK0 := Aside0.mk ((Below.block hq2_ _ (blk_lt BK0.out)).trans BK0.out); replace HS2 := Aside0.mk (Kd.S_below HS2.out hq2_); replace HR2 := Aside0.mk (Kd.R_below HR2.out hq2_); replace SZ2 := Aside0.mk (Nat.lt_of_lt_of_le SZ2.out (Below.size hq2_)); replace BK2 := Aside0.mk ((Below.block hq2_ _ (blk_lt BK2.out)).trans BK2.out); replace HO2 := Aside0.mk (Kd.R_below HO2.out hq2_); replace SZA := Aside0.mk (Nat.lt_of_lt_of_le SZA.out (Below.size hq2_)); replace BKA := Aside0.mk ((Below.block hq2_ _ (blk_lt BKA.out)).trans BKA.out); replace HB := Aside0.mk hq1_; have HS3 := Aside0.mk hq3_; have HR3 := Aside0.mk hq4_; have BK3 := Aside0.mk hq5_; have LG3 := Aside0.mk hq6_; have SZ3 := Aside0.mk hq7_; have HO3 := Aside0.mk hq8_; clear hq1_ hq2_ hq3_ hq4_ hq5_ hq6_ hq7_ hq8_ hW3 HN3 HA3 HT3 hfa_0 hfa_1 hfa_2 hca_0 hca_1 hca_2; have hcz3_0 : W13.cell? ⟨gb3, 0, none⟩ = some (.int .i64 m0) := (blk_cell BK3.out 0).trans rfl; have hcz3_1 : W13.cell? ⟨gb3, 1, none⟩ = some (.slice A3 (rc).length c3) := (blk_cell BK3.out 1).trans rfl; have hcz3_2 : W13.cell? ⟨gb3, 2, none⟩ = some (.slice D3 (rt).length d3) := (blk_cell BK3.out 2).trans rfl; have hcz1_0 : W13.cell? ⟨gb1, 0, none⟩ = some (.int .i64 m0) := (blk_cell BK1.out 0).trans rfl; have hcz1_1 : W13.cell? ⟨gb1, 1, none⟩ = some (.slice A1 (rc).length c1) := (blk_cell BK1.out 1).trans rfl; have hcz1_2 : W13.cell? ⟨gb1, 2, none⟩ = some (.slice D1 (rt).length d1) := (blk_cell BK1.out 2).trans rfl))
  go_wp2_with (go_at_call 10; refine (laws_eqMem.calls K m0 _ _ rc _ _ rt m0 _ _ rc _ _ rt true _ (Kd.S_reads' HS3.out).2.2 (Kd.S_reads' HS3.out).2.1 (Kd.R_reads' HR3.out).2.2 (Kd.R_reads' HR3.out).2.1 (Kd.S_reads' HS1.out).2.2 (Kd.S_reads' HS1.out).2.1 (Kd.R_reads' HR1.out).2.2 (Kd.R_reads' HR1.out).2.1 HEQ.out).mono ?_; rintro e we13 ⟨rfl, hb_⟩; clear hcz3_0 hcz3_1 hcz3_2 hcz1_0 hcz1_1 hcz1_2; replace HS1 := Aside0.mk (Kd.S_below HS1.out hb_); replace HR1 := Aside0.mk (Kd.R_below HR1.out hb_); replace SZ1 := Aside0.mk (Nat.lt_of_lt_of_le SZ1.out (Below.size hb_)); replace BK1 := Aside0.mk ((Below.block hb_ _ (blk_lt BK1.out)).trans BK1.out); replace HO1 := Aside0.mk (Kd.R_below HO1.out hb_); replace HS0 := Aside0.mk (Kd.S_below HS0.out hb_); replace HR0 := Aside0.mk (Kd.R_below HR0.out hb_); replace SZ0 := Aside0.mk (Nat.lt_of_lt_of_le SZ0.out (Below.size hb_)); replace BK0 := Aside0.mk ((Below.block hb_ _ (blk_lt BK0.out)).trans BK0.out); replace HS2 := Aside0.mk (Kd.S_below HS2.out hb_); replace HR2 := Aside0.mk (Kd.R_below HR2.out hb_); replace SZ2 := Aside0.mk (Nat.lt_of_lt_of_le SZ2.out (Below.size hb_)); replace BK2 := Aside0.mk ((Below.block hb_ _ (blk_lt BK2.out)).trans BK2.out); replace HO2 := Aside0.mk (Kd.R_below HO2.out hb_); replace HS3 := Aside0.mk (Kd.S_below HS3.out hb_); replace HR3 := Aside0.mk (Kd.R_below HR3.out hb_); replace SZ3 := Aside0.mk (Nat.lt_of_lt_of_le SZ3.out (Below.size hb_)); replace BK3 := Aside0.mk ((Below.block hb_ _ (blk_lt BK3.out)).trans BK3.out); replace HO3 := Aside0.mk (Kd.R_below HO3.out hb_); replace SZA := Aside0.mk (Nat.lt_of_lt_of_le SZA.out (Below.size hb_)); replace BKA := Aside0.mk ((Below.block hb_ _ (blk_lt BKA.out)).trans BKA.out); replace HB := Aside0.mk (below_step HB.out hb_); clear hb_)
  go_wp2_with (go_at_call 19; refine (laws_eqByteS.calls K _ _ rb _ _ rb true _ (Kd.R_reads' HO3.out).2.2 (Kd.R_reads' HO3.out).2.1 (Kd.R_reads' HO1.out).2.2 (Kd.R_reads' HO1.out).2.1 HEB.out).mono ?_; rintro e wq14 ⟨rfl, hd_⟩; have hb_ := hd_.below; replace HS1 := Aside0.mk (Kd.S_below HS1.out hb_); replace HR1 := Aside0.mk (Kd.R_below HR1.out hb_); replace SZ1 := Aside0.mk (Nat.lt_of_lt_of_le SZ1.out (Below.size hb_)); replace BK1 := Aside0.mk ((Below.block hb_ _ (blk_lt BK1.out)).trans BK1.out); replace HO1 := Aside0.mk (Kd.R_below HO1.out hb_); replace HS0 := Aside0.mk (Kd.S_below HS0.out hb_); replace HR0 := Aside0.mk (Kd.R_below HR0.out hb_); replace SZ0 := Aside0.mk (Nat.lt_of_lt_of_le SZ0.out (Below.size hb_)); replace BK0 := Aside0.mk ((Below.block hb_ _ (blk_lt BK0.out)).trans BK0.out); replace HS2 := Aside0.mk (Kd.S_below HS2.out hb_); replace HR2 := Aside0.mk (Kd.R_below HR2.out hb_); replace SZ2 := Aside0.mk (Nat.lt_of_lt_of_le SZ2.out (Below.size hb_)); replace BK2 := Aside0.mk ((Below.block hb_ _ (blk_lt BK2.out)).trans BK2.out); replace HO2 := Aside0.mk (Kd.R_below HO2.out hb_); replace HS3 := Aside0.mk (Kd.S_below HS3.out hb_); replace HR3 := Aside0.mk (Kd.R_below HR3.out hb_); replace SZ3 := Aside0.mk (Nat.lt_of_lt_of_le SZ3.out (Below.size hb_)); replace BK3 := Aside0.mk ((Below.block hb_ _ (blk_lt BK3.out)).trans BK3.out); replace HO3 := Aside0.mk (Kd.R_below HO3.out hb_); replace SZA := Aside0.mk (Nat.lt_of_lt_of_le SZA.out (Below.size hb_)); replace BKA := Aside0.mk ((Below.block hb_ _ (blk_lt BKA.out)).trans BKA.out); replace HB := Aside0.mk (below_step HB.out hb_); have hcz2_0 : wq14.cell? ⟨gb2, 0, none⟩ = some (.int .i64 m0) := (blk_cell BK2.out 0).trans rfl; have hcz2_1 : wq14.cell? ⟨gb2, 1, none⟩ = some (.slice A2 (rc).length c2) := (blk_cell BK2.out 1).trans rfl; have hcz2_2 : wq14.cell? ⟨gb2, 2, none⟩ = some (.slice D2 (rt).length d2) := (blk_cell BK2.out 2).trans rfl; clear hb_ hd_)
  go_wp2_with (go_at_call 12; refine (heldMem_calls K m0 1 ((1 + (sumC rc : Int))) rc (rt.length) _ HS2.out HR2.out mv HHL.out).mono ?_; rintro e wh15 ⟨rfl, hb_⟩; clear hcz2_0 hcz2_1 hcz2_2; replace HS1 := Aside0.mk (Kd.S_below HS1.out hb_); replace HR1 := Aside0.mk (Kd.R_below HR1.out hb_); replace SZ1 := Aside0.mk (Nat.lt_of_lt_of_le SZ1.out (Below.size hb_)); replace BK1 := Aside0.mk ((Below.block hb_ _ (blk_lt BK1.out)).trans BK1.out); replace HO1 := Aside0.mk (Kd.R_below HO1.out hb_); replace HS0 := Aside0.mk (Kd.S_below HS0.out hb_); replace HR0 := Aside0.mk (Kd.R_below HR0.out hb_); replace SZ0 := Aside0.mk (Nat.lt_of_lt_of_le SZ0.out (Below.size hb_)); replace BK0 := Aside0.mk ((Below.block hb_ _ (blk_lt BK0.out)).trans BK0.out); replace HS2 := Aside0.mk (Kd.S_below HS2.out hb_); replace HR2 := Aside0.mk (Kd.R_below HR2.out hb_); replace SZ2 := Aside0.mk (Nat.lt_of_lt_of_le SZ2.out (Below.size hb_)); replace BK2 := Aside0.mk ((Below.block hb_ _ (blk_lt BK2.out)).trans BK2.out); replace HO2 := Aside0.mk (Kd.R_below HO2.out hb_); replace HS3 := Aside0.mk (Kd.S_below HS3.out hb_); replace HR3 := Aside0.mk (Kd.R_below HR3.out hb_); replace SZ3 := Aside0.mk (Nat.lt_of_lt_of_le SZ3.out (Below.size hb_)); replace BK3 := Aside0.mk ((Below.block hb_ _ (blk_lt BK3.out)).trans BK3.out); replace HO3 := Aside0.mk (Kd.R_below HO3.out hb_); replace SZA := Aside0.mk (Nat.lt_of_lt_of_le SZA.out (Below.size hb_)); replace BKA := Aside0.mk ((Below.block hb_ _ (blk_lt BKA.out)).trans BKA.out); replace HB := Aside0.mk (below_step HB.out hb_); clear hb_)
  go_wp2_with (go_at_call 21; refine (heldByteS_calls K mv (rb).length mw _ HO2.out HHB.out).mono ?_; rintro e wb16 ⟨rfl, hd_⟩; have hb_ := hd_.below; replace HS1 := Aside0.mk (Kd.S_below HS1.out hb_); replace HR1 := Aside0.mk (Kd.R_below HR1.out hb_); replace SZ1 := Aside0.mk (Nat.lt_of_lt_of_le SZ1.out (Below.size hb_)); replace BK1 := Aside0.mk ((Below.block hb_ _ (blk_lt BK1.out)).trans BK1.out); replace HO1 := Aside0.mk (Kd.R_below HO1.out hb_); replace HS0 := Aside0.mk (Kd.S_below HS0.out hb_); replace HR0 := Aside0.mk (Kd.R_below HR0.out hb_); replace SZ0 := Aside0.mk (Nat.lt_of_lt_of_le SZ0.out (Below.size hb_)); replace BK0 := Aside0.mk ((Below.block hb_ _ (blk_lt BK0.out)).trans BK0.out); replace HS2 := Aside0.mk (Kd.S_below HS2.out hb_); replace HR2 := Aside0.mk (Kd.R_below HR2.out hb_); replace SZ2 := Aside0.mk (Nat.lt_of_lt_of_le SZ2.out (Below.size hb_)); replace BK2 := Aside0.mk ((Below.block hb_ _ (blk_lt BK2.out)).trans BK2.out); replace HO2 := Aside0.mk (Kd.R_below HO2.out hb_); replace HS3 := Aside0.mk (Kd.S_below HS3.out hb_); replace HR3 := Aside0.mk (Kd.R_below HR3.out hb_); replace SZ3 := Aside0.mk (Nat.lt_of_lt_of_le SZ3.out (Below.size hb_)); replace BK3 := Aside0.mk ((Below.block hb_ _ (blk_lt BK3.out)).trans BK3.out); replace HO3 := Aside0.mk (Kd.R_below HO3.out hb_); replace SZA := Aside0.mk (Nat.lt_of_lt_of_le SZA.out (Below.size hb_)); replace BKA := Aside0.mk ((Below.block hb_ _ (blk_lt BKA.out)).trans BKA.out); replace HB := Aside0.mk (below_step HB.out hb_); clear hb_ hd_)
  go_ret
  exact ⟨by first | rfl | (simp; done) | (simp [*]; done), HB.out⟩

end Go.Proofs.Ytoceiaaigiflpaa.Pure
