/- Writes into a memory of the call's own, what MemWrite makes, and the walk of the law: walks of this session's own beside the printed ones. -/
import Derived.Test.YtoceiaaigiflpaaQFnExactMemWritex9
import Derived.Test.YtoceiaaigiflpaaPureFnExactMemWrite
set_option linter.unusedVariables false
set_option linter.unusedSimpArgs false
namespace Go.Proofs.Ytoceiaaigiflpaa.Pure
open Go.RowKit Go.Proofs.YtoceiaaigiflpaaW.PrintWords Go.Proofs.YtoceiaaigiflpaaW.PrintLast Go.Proofs.YtoceiaaigiflpaaW.PrintMore Go.Proofs.Ytoceiaaigiflpaa.PFnExactMemWrite Go.Proofs.Ytoceiaaigiflpaa.L
set_option maxHeartbeats 8000000 in
set_option maxRecDepth 100000 in
/-- The cells of a memory of the call's own are marked: the row that leads to them stays, and so does all that is none of theirs. -/
theorem markCellS_calls (K : Nat) (hK : 1048580 < K) (cs : List S50) (a : Int) (h0 : 0 ≤ a) (h1 : a ≤ 100000000) (hs : sumC cs ≤ 100000000) (hn : cs.length ≤ 1048576) (hbl : ∀ c ∈ cs, c.f0.length ≤ 1048576) (P0_ : Nat → Prop) (u : Value) (w0 w : World) (hB : Below w0.heap.size w0 w) (ho0 : Kd.S k50 50 w w0.heap.size P0_ u cs) :
    Calls Try.prog 31 #[u, .int .i64 a] w fun e w' => e = .returned (.int .i64 (a + (sumC cs : Int))) ∧ Kd.S k50 50 w' w0.heap.size P0_ u (markC a cs) ∧ Below w0.heap.size w0 w' ∧ Kept w w' P0_ := by
  obtain ⟨A, c, rfl⟩ := Kd.S_slice ho0
  have HO0 := Aside0.mk ho0
  have HB0 := Aside0.mk hB
  have hu50 := Try.underlying50
  clear ho0 hB
  go_enter Try.func31, Try.ntmps31
  go_wp2
  go_loopg [1, 5] (cs.length + 1) (fun kq v1 v5 w' => ∃ i : Nat, v1 = .int .i64 (a + (sumC (cs.take i) : Int)) ∧ v5 = .int .i64 (i : Int) ∧ Aside0 (i ≤ cs.length) ∧ Aside0 (kq + i = cs.length + 1) ∧ Aside0 (Kd.S k50 50 w' w0.heap.size P0_ (.slice A cs.length c) (midC a cs i)) ∧ Aside0 (Kept w w' P0_) ∧ Aside0 (Below w0.heap.size w0 w'))
  case atStart => exact ⟨0, by simp [sumC], rfl, ⟨Nat.zero_le _⟩, ⟨rfl⟩, ⟨by rw [midC_zero]; exact HO0.out⟩, ⟨Kept.refl w P0_⟩, ⟨HB0.out⟩⟩
  case round =>
    clear HO0 HB0
    obtain ⟨i, rfl, rfl, HI, HQ, HO, HK, HB⟩ := hrel
    cases gk with
    | zero => exact absurd HQ.out (by have := HI.out; omega)
    | succ k1 =>
      have hml := midC_length a cs i
      by_cases c3 : (i : Int) < (cs.length : Int)
      · have LI : i < cs.length := by omega
        have c4 : 0 ≤ (i : Int) := Int.natCast_nonneg i
        obtain ⟨g, cap, e, gb, gl, cl, HG⟩ := Kd.S_form HO.out (by omega)
        injection e with e1 e2 e3
        subst e1
        subst e3
        obtain ⟨oki, cc, hcl, hM, hcc, hoki, hH⟩ := Kd.S_lend HO.out z50 (i : Int) c4 (by omega)
        rw [Int.toNat_natCast, midC_at a LI] at hM
        obtain ⟨v0, rfl, hR⟩ := k50_openM hM
        obtain ⟨A2, c2, rfl⟩ := Kd.R_slice hR
        have hx0 : wr.cell? ⟨g, i, none⟩ = some (.slice A2 cs[i].f0.length c2) := by
          have h := hcc 0 _ rfl
          rw [show ((i : Int).toNat * k50.sz + 0) = i from by show ((i : Int).toNat * 1 + 0) = i; omega] at h
          exact h
        have hlen := hbl _ (List.getElem_mem LI)
        have htk := sumC_take cs i
        have hf : laws_markByteS.f K cs[i].f0 (a + (sumC (cs.take i) : Int)) = some (a + (sumC (cs.take i) : Int) + (cs[i].f0.length : Int), markL (a + (sumC (cs.take i) : Int)) cs[i].f0.length) := markByteS_f _ (by omega) (by omega) _ hlen (by omega)
        have hst : a + (sumC (cs.take i) : Int) + (cs[i].f0.length : Int) = a + (sumC (cs.take (i + 1)) : Int) := by rw [sumC_step LI]; omega
        rw [hst] at hf
        have LW : wrap64 ((i : Int) + 1) = ((i + 1 : Nat) : Int) := by rw [show ((i : Int) + 1) = ((i + 1 : Nat) : Int) from rfl]; unfold wrap64; omega
        have AI := Aside0.mk LI
        have AW := Aside0.mk LW
        have AR := Aside0.mk hR
        have AH := Aside0.mk hH
        have AF := Aside0.mk hf
        have AK := Aside0.mk hoki
        have hzl : cs[i].f0.length = cs[i].f0.length := rfl
        have c3b0 : decide ((i : Int) < (cs.length : Int)) = true := decide_eq_true c3
        have c3b1 : decide (i < cs.length) = true := decide_eq_true LI
        generalize hci : cs[i] = ci at *
        have AC := Aside0.mk (show ∀ h : i < cs.length, cs[i]'h = ci from fun _ => hci)
        clear LI LW hR hH hf hoki hM hcc hcl hlen htk hst hzl hci hml e2 gb gl cl HG
        replace c4 := eq_true c4
        replace c3 := eq_true c3
        go_wp2_with (go_at_call 20; refine (laws_markByteS.calls K oki (.slice A2 ci.f0.length c2) ci.f0 (a + (sumC (cs.take i) : Int)) _ _ w0 _ HB.out AR.out AF.out).mono ?_; rintro e w8 ⟨rfl, hR2, hB2, hK2⟩; have n0_ := Aside0.mk (Kd.H_back (Kd.H_kept AH.out hK2 (fun k _ hn => hn)) (k50_mkM w8 w0.heap.size oki ⟨markL (a + (sumC (cs.take i) : Int)) ci.f0.length⟩ ⟨AR.out.1, hR2.2⟩) (fun _ hk => hk)); have n1_ := Aside0.mk (HK.out.then_ hK2 (fun k hk => .inl (AK.out k hk).1)); have n2_ := Aside0.mk hB2; clear hR2 hB2 hK2)
        go_roundg k1
        case measure => have := HQ.out; omega
        case rel => exact ⟨i + 1, by first | rfl | (simp; done), by first | (rw [AW.out]; done) | (simp [AW.out]; done), ⟨AI.out⟩, ⟨by have := HQ.out; omega⟩, ⟨by have h := n0_.out; rw [Int.toNat_natCast] at h; rw [← midC_step a AI.out, AC.out AI.out]; exact h⟩, n1_, n2_⟩
      · have c3b0 : decide ((i : Int) < (cs.length : Int)) = false := decide_eq_false c3
        have LE : i = cs.length := by have := HI.out; omega
        have AE := Aside0.mk LE
        have c3n : decide (i < cs.length) = false := decide_eq_false (by omega)
        clear c3 LE hml
        go_wp2
        go_ret
        exact ⟨by have := AE.out; subst this; rw [List.take_length]; first | rfl | (simp; done), by have h := HO.out; rw [AE.out, midC_all] at h; exact h, HB.out, HK.out⟩
theorem R_back {α : Type} {d : Kd α} {e base : Nat} {ok ok' : Nat → Prop} {W W' : World} {v : Value} {xs ys : List α} (h : Kd.R d e W base ok v xs) (h' : Kd.R d e W' base ok' v ys) (hd : ∀ (w : World) (b : Nat) (o o' : Nat → Prop) (x : α) (c : List Value), d.M w b o x c → d.M w b o' x c) : Kd.R d e W' base ok v ys := by
  obtain ⟨_, inner, ho, hr⟩ := h'
  exact ⟨h.1, inner, ho, Reps.imp_ hr (fun p c hm => hd _ _ _ _ _ _ hm)⟩
theorem touch_free (w : World) (b : Nat) (o o' : Nat → Prop) (x : S59) (c : List Value) (h : k59.M w b o x c) : k59.M w b o' x c := h
set_option maxHeartbeats 8000000 in
set_option maxRecDepth 100000 in
/-- A memory of the call's own is marked. -/
theorem markMem_calls (K : Nat) (hK : 1048580 < K) (a0 a : Int) (cs : List S50) (ts : List S59) (h0 : 0 ≤ a) (h1 : a ≤ 100000000) (hs : sumC cs ≤ 100000000) (hn : cs.length ≤ 1048576) (hbl : ∀ c ∈ cs, c.f0.length ≤ 1048576) (ht : ts.length ≤ 1048576) (P0_ : Nat → Prop) (u1 u2 : Value) (w0 w : World) (hB : Below w0.heap.size w0 w) (ho1 : Kd.S k50 50 w w0.heap.size P0_ u1 cs) (ho2 : Kd.R k59 59 w w0.heap.size P0_ u2 ts) :
    Calls Try.prog 11 #[.agg #[.int .i64 a0, u1, u2], .int .i64 a] w fun e w' => e = .returned (.int .i64 (a + (sumC cs : Int) + 3 * (ts.length : Int))) ∧ Kd.S k50 50 w' w0.heap.size P0_ u1 (markC a cs) ∧ Kd.R k59 59 w' w0.heap.size P0_ u2 (markT (a + (sumC cs : Int)) ts.length) ∧ Below w0.heap.size w0 w' ∧ Kept w w' P0_ := by
  obtain ⟨A1, c1, rfl⟩ := Kd.S_slice ho1
  obtain ⟨A2, c2, rfl⟩ := Kd.R_slice ho2
  have hu25 := Try.underlying25
  obtain ⟨P1, hP1, hS1, hP1t⟩ : ∃ P1 : Nat → Prop, (∀ k, P1 k → P0_ k ∧ k < w.heap.size) ∧ Kd.S k50 50 w w0.heap.size P1 (.slice A1 cs.length c1) cs ∧ ∀ k, P1 k → ∃ q, q ∈ 50 :: k50.E ∧ ∃ cells, w.heap[k]? = some (.cells cells q (0, 0)) := ⟨_, fun k hk => ⟨hk.1, hk.2.2.1⟩, Kd.S_bound ho1, fun k hk => hk.2.2.2⟩
  obtain ⟨P2, hP2, hR2, hP2t⟩ : ∃ P2 : Nat → Prop, (∀ k, P2 k → P0_ k ∧ k < w.heap.size) ∧ Kd.R k59 59 w w0.heap.size P2 (.slice A2 ts.length c2) ts ∧ ∀ k, P2 k → ∃ q, q ∈ 59 :: k59.E ∧ ∃ cells, w.heap[k]? = some (.cells cells q (0, 0)) := ⟨_, fun k hk => ⟨hk.1, hk.2.2.1⟩, Kd.R_bound ho2, fun k hk => hk.2.2.2⟩
  have hne : ∀ k, P1 k → ¬ P2 k := fun k h1 h2 => by
    obtain ⟨q1, m1, x1, e1⟩ := hP1t k h1
    obtain ⟨q2, m2, x2, e2⟩ := hP2t k h2
    have hq : q1 = q2 := by
      have h := e1.symm.trans e2
      injection h with h
      injection h
    subst hq
    have m1' : q1 ∈ [50, 5] := m1
    have m2' : q1 ∈ [59] := m2
    simp at m1' m2'
    omega
  have HS1 := Aside0.mk hS1
  have HR2 := Aside0.mk hR2
  have HNE := Aside0.mk hne
  have HP1 := Aside0.mk hP1
  have HP2 := Aside0.mk hP2
  have HB := Aside0.mk hB
  have HF := Aside0.mk (markTouchS_f (a + (sumC cs : Int)) ts.length (by omega) (by omega) ht ts rfl (k := K) (by omega))
  have HM := Aside0.mk (show ∀ W W' : World, Below w0.heap.size w0 W → Kd.S k50 50 W w0.heap.size P1 (.slice A1 cs.length c1) cs → True from fun _ _ _ _ => trivial)
  clear hS1 hR2 hne hP1 hP2 hP1t hP2t ho1 ho2 hB HM
  go_enter Try.func11, Try.ntmps11
  go_wp2_with (first | ((with_reducible refine gate_dst (N := 2) rfl ?_); refine box_event ?hg (N := 2) ?hd (cs := #[.int .i64 a0, .slice A1 cs.length c1, .slice A2 ts.length c2]) (t := 25) ?hr ?_; (case hd => rfl); (case hg => rfl); (case hr => first | (go_simp; done) | (go_simp; rfl)); intro gb hg w9 hbox hb; have HX := Aside0.mk hb; have HG := Aside0.mk hg; have BK := Aside0.mk hbox; clear hb hg hbox; have hcz_0 : w9.cell? ⟨gb, 0, none⟩ = some (.int .i64 a0) := (blk_cell BK.out 0).trans rfl; have hcz_1 : w9.cell? ⟨gb, 1, none⟩ = some (.slice A1 cs.length c1) := (blk_cell BK.out 1).trans rfl; have hcz_2 : w9.cell? ⟨gb, 2, none⟩ = some (.slice A2 ts.length c2) := (blk_cell BK.out 2).trans rfl) | (go_at_call 31; refine (markCellS_calls K hK cs a h0 h1 hs hn hbl P1 (.slice A1 cs.length c1) w0 _ (below_step HB.out HX.out) (Kd.S_below HS1.out HX.out)).mono ?_; rintro e w10 ⟨rfl, hS, hB2, hK2⟩; have HS3 := Aside0.mk hS; have HB3 := Aside0.mk hB2; have HK3 := Aside0.mk hK2; have HR3 := Aside0.mk (Kd.R_kept (Kd.R_below HR2.out HX.out) hK2 (fun k h2 h1 => HNE.out k h1 h2)); have BK3 := Aside0.mk (blk_kept BK.out hK2 (fun h => by have := (HP1.out _ h).2; have := HG.out; omega)); clear hS hB2 hK2 hcz_0 hcz_1 hcz_2; have hcz_0 : w10.cell? ⟨gb, 0, none⟩ = some (.int .i64 a0) := (blk_cell BK3.out 0).trans rfl; have hcz_1 : w10.cell? ⟨gb, 1, none⟩ = some (.slice A1 cs.length c1) := (blk_cell BK3.out 1).trans rfl; have hcz_2 : w10.cell? ⟨gb, 2, none⟩ = some (.slice A2 ts.length c2) := (blk_cell BK3.out 2).trans rfl) | (go_at_call 32; refine (laws_markTouchS.calls K P2 (.slice A2 ts.length c2) ts (a + (sumC cs : Int)) _ _ w0 _ HB3.out HR3.out HF.out).mono ?_; rintro e w11 ⟨rfl, hR, hB2, hK2⟩; have HR4 := Aside0.mk (R_back HR3.out hR touch_free); have HB4 := Aside0.mk hB2; have HK4 := Aside0.mk hK2; have HS4 := Aside0.mk (Kd.S_kept HS3.out hK2 HNE.out); clear hR hB2 hK2))
  go_ret
  exact ⟨by first | rfl | (simp; done), Kd.S_mono HS4.out (fun k hk => (HP1.out k hk).1), Kd.R_mono HR4.out (fun k hk => (HP2.out k hk).1), HB4.out, ((Kept.of_below HX.out P0_).then_ HK3.out (fun k hk => .inl (HP1.out k hk).1)).then_ HK4.out (fun k hk => .inl (HP2.out k hk).1)⟩
theorem mem_new {w W w1 wA W' : World} {v1 v2 : Value} {a : Int} {cs : List S50} {ts : List S59} {gb : Nat} (hB : Below w.heap.size w W) (hb : Below W.heap.size W w1) (hS : Kd.S k50 50 w1 W.heap.size (fun _ => True) v1 cs) (hR : Kd.R k59 59 w1 W.heap.size (fun _ => True) v2 ts)
    (hg : gb = w1.heap.size) (hbox : wA.heap[gb]? = some (.cells #[.int .i64 0, .slice none 0 0, .slice none 0 0] 25 (0, 0))) (hbA : Below w1.heap.size w1 wA)
    (hW : W' = ((wA.setCell ⟨gb, 0, none⟩ (.int .i64 a)).setCell ⟨gb, 1, none⟩ v1).setCell ⟨gb, 2, none⟩ v2) :
    Below w.heap.size w W' ∧ Below W.heap.size W W' ∧ Kd.S k50 50 W' w.heap.size (fun k => W.heap.size ≤ k ∧ k < gb) v1 cs ∧ Kd.R k59 59 W' w.heap.size (fun k => W.heap.size ≤ k ∧ k < gb) v2 ts ∧ W'.heap[gb]? = some (.cells #[.int .i64 a, v1, v2] 25 (0, 0)) ∧ W.heap.size ≤ gb ∧ gb < W'.heap.size := by
  subst hW
  have hge : W.heap.size ≤ gb := by rw [hg]; exact hb.size
  have hgw : w.heap.size ≤ gb := Nat.le_trans hB.size hge
  have b1 := blk_put hbox 0 (.int .i64 a) rfl
  have b2 := blk_put b1 1 v1 rfl
  have b3 := blk_put b2 2 v2 rfl
  have hWA : Below W.heap.size W wA := below_step hb hbA
  have hwA : Below w.heap.size w wA := below_step (below_step hB hb) hbA
  have hS1 : Kd.S k50 50 w1 w.heap.size (fun k => W.heap.size ≤ k ∧ k < gb) v1 cs := Kd.S_lower (Kd.S_mono (Kd.S_bound hS) (fun k hk => ⟨hk.2.1, by rw [hg]; exact hk.2.2.1⟩)) hB.size
  have hR1 : Kd.R k59 59 w1 w.heap.size (fun k => W.heap.size ≤ k ∧ k < gb) v2 ts := Kd.R_lower (Kd.R_mono (Kd.R_bound hR) (fun k hk => ⟨hk.2.1, by rw [hg]; exact hk.2.2.1⟩)) hB.size
  have hS2 := Kd.S_below hS1 hbA
  have hR2 := Kd.R_below hR1 hbA
  refine ⟨below_set (below_set (below_set hwA hgw) hgw) hgw, below_set (below_set (below_set hWA hge) hge) hge, ?_, ?_, b3, hge, blk_lt b3⟩
  · exact Kd.S_far (Kd.S_far (Kd.S_far hS2 (fun k hk => Nat.ne_of_lt hk.2) _) (fun k hk => Nat.ne_of_lt hk.2) _) (fun k hk => Nat.ne_of_lt hk.2) _
  · exact Kd.R_far (Kd.R_far (Kd.R_far hR2 (fun k hk => Nat.ne_of_lt hk.2) _) (fun k hk => Nat.ne_of_lt hk.2) _) (fun k hk => Nat.ne_of_lt hk.2) _

set_option maxHeartbeats 8000000 in
set_option maxRecDepth 100000 in
theorem memWrite_calls (a0 : Int) (cs : List S50) (ts : List S59) (at_ : Nat) (hat : at_ < cs.length) (hlg : ts.length ≤ 1000000) (g : Nat) (A1 : Option Addr) (c1 : Nat) (D : Option Addr) (d : Nat) (B : Option Addr) (b : Nat) (xs : List Int) (hxs : xs.length < 140737488355328) (w0 w : World) (hB : Below w0.heap.size w0 w) (hge : w0.heap.size ≤ g)
    (hbk : w.heap[g]? = some (.cells #[.int .i64 a0, .slice A1 cs.length c1, .slice D ts.length d] 25 (0, 0))) (hS : Kd.S k50 50 w w0.heap.size (fun _ => True) (.slice A1 cs.length c1) cs) (hX : Kd.C (Kd.int .u8) w0 B xs.length xs) (hxb : xs.length ≤ b) (hR : Kd.R k59 59 w w0.heap.size (fun _ => True) (.slice D ts.length d) ts) :
    Calls Try.prog 44 #[.pointer (some ⟨g, 0, none⟩), .int .i64 (at_ : Int), .slice B xs.length b] w fun e w' => ∃ (D2 : Option Addr) (d2 : Nat), e = .returned (.tuple #[]) ∧ w'.heap[g]? = some (.cells #[.int .i64 a0, .slice A1 cs.length c1, .slice D2 (ts.length + 1) d2] 25 (0, 0)) ∧ Kd.S k50 50 w' w0.heap.size (fun _ => True) (.slice A1 cs.length c1) (cs.set at_ ⟨xs⟩) ∧ Kd.R k59 59 w' w0.heap.size (fun _ => True) (.slice D2 (ts.length + 1) d2) (ts ++ [(⟨2, (at_ : Int), a0⟩ : S59)]) ∧ Below w0.heap.size w0 w' ∧ (∀ (k : Nat) (ce : Array Value) (t : Nat), k ≠ g → t ≠ 59 → t ≠ 50 → w.heap[k]? = some (.cells ce t (0, 0)) → w'.heap[k]? = some (.cells ce t (0, 0))) := by
  have hu25 := Try.underlying25
  have hu50 := Try.underlying50
  obtain ⟨gr, cap, e, gb, gl, cl, HG0⟩ := Kd.S_form hS (by omega)
  injection e with e1 e2 e3
  subst e1
  subst e3
  have HB := Aside0.mk hB
  have BK := Aside0.mk hbk
  have HS := Aside0.mk hS
  have HR := Aside0.mk hR
  have HLG := Aside0.mk hlg
  have HGE := Aside0.mk hge
  have HAT := Aside0.mk hat
  have HO : Aside0 (∀ (k : Nat) (ce : Array Value) (t : Nat), k ≠ g → t ≠ 59 → t ≠ 50 → w.heap[k]? = some (.cells ce t (0, 0)) → w.heap[k]? = some (.cells ce t (0, 0))) := ⟨fun _ _ _ _ _ _ h => h⟩
  clear hB hbk hS hR hlg hge hat e2 gb gl cl HG0
  have HX := Aside0.mk hX
  have HXB := Aside0.mk hxb
  have HXS := Aside0.mk hxs
  clear hX hxb hxs
  go_enter Try.func44, Try.ntmps44
  try go_wp2
  have n0_ := Aside0.mk (blk_drew BK.out)
  have n1_ := Aside0.mk (below_drew1 HB.out)
  have n2_ := Aside0.mk (Kd.S_drew HS.out)
  have n3_ := Aside0.mk (Kd.R_drew HR.out)
  have n4_ := Aside0.mk (fun (k : Nat) (ce : Array Value) (t : Nat) (hk : k ≠ g) (ht : t ≠ 59) (hc : t ≠ 50) h => blk_drew (HO.out k ce t hk ht hc h))
  clear BK HB HS HR HO
  have BK := n0_
  have HB := n1_
  have HS := n2_
  have HR := n3_
  have HO := n4_
  clear n0_ n1_ n2_ n3_ n4_
  refine start_ (n := 16) (S := fun w' => w'.cell? ⟨g, 0, none⟩ = some (.int .i64 a0) ∧ w'.cell? ⟨g, 1, none⟩ = some (.slice (some ⟨gr, 0, none⟩) cs.length c1) ∧ w'.cell? ⟨g, 2, none⟩ = some (.slice D ts.length d)) (ds := [15]) #[false, false, false, false, false, false, false, false, false, false, false, false, false, false, false, false] (by kernel_rfl) rfl rfl ⟨(blk_cell BK.out 0).trans rfl, (blk_cell BK.out 1).trans rfl, (blk_cell BK.out 2).trans rfl⟩ (fun hHeld => ?_)
  generalize w.drew = w5 at BK HB HS HR HO hHeld ⊢
  refine pure_ (i := 0) (N := some 6) (v := ?_) (a' := ?_) #[true, false, false, false, false, false, false, false, false, false, false, false, false, false, false, false] rfl rfl (by kernel_rfl) (fun _ _ _ h => h) (Or.inl ⟨by rfl, ?_⟩) ?_ ?_
  rotate_left
  · intro w'
    go_simp
    with_reducible rfl
  rotate_left
  · simp only [Act.put, List.setIfInBounds_toArray, List.set_cons_zero, List.set_cons_succ, i64_w, i32_w]
    rfl
  refine pure_ (i := 1) (N := some 7) (v := ?_) (a' := ?_) #[true, true, false, false, false, false, false, false, false, false, false, false, false, false, false, false] rfl rfl (by kernel_rfl) (fun _ _ _ h => h) (Or.inl ⟨by rfl, ?_⟩) ?_ ?_
  rotate_left
  · intro w'
    go_simp
    with_reducible rfl
  rotate_left
  · simp only [Act.put, List.setIfInBounds_toArray, List.set_cons_zero, List.set_cons_succ, i64_w, i32_w]
    rfl
  refine pure_ (i := 2) (N := some 8) (v := ?_) (a' := ?_) #[true, true, true, false, false, false, false, false, false, false, false, false, false, false, false, false] rfl rfl (by kernel_rfl) (fun _ _ _ h => h) (Or.inl ⟨by rfl, ?_⟩) ?_ ?_
  rotate_left
  · intro w'
    go_simp
    with_reducible rfl
  rotate_left
  · simp only [Act.put, List.setIfInBounds_toArray, List.set_cons_zero, List.set_cons_succ, i64_w, i32_w]
    rfl
  refine pure_ (i := 3) (N := some 9) (v := ?_) (a' := ?_) #[true, true, true, true, false, false, false, false, false, false, false, false, false, false, false, false] rfl rfl (by kernel_rfl) (fun _ _ _ h => h) (Or.inl ⟨by rfl, ?_⟩) ?_ ?_
  rotate_left
  · intro w'
    go_simp
    with_reducible rfl
  rotate_left
  · simp only [Act.put, List.setIfInBounds_toArray, List.set_cons_zero, List.set_cons_succ, i64_w, i32_w]
    rfl
  refine pure_ (i := 5) (N := some 11) (v := ?_) (a' := ?_) #[true, true, true, true, false, true, false, false, false, false, false, false, false, false, false, false] rfl rfl (by kernel_rfl) (fun _ _ _ h => h) (Or.inl ⟨by rfl, ?_⟩) ?_ ?_
  rotate_left
  · intro w'
    go_simp
    with_reducible rfl
  rotate_left
  · simp only [Act.put, List.setIfInBounds_toArray, List.set_cons_zero, List.set_cons_succ, i64_w, i32_w]
    rfl
  refine pure_ (i := 6) (N := some 12) (v := ?_) (a' := ?_) #[true, true, true, true, false, true, true, false, false, false, false, false, false, false, false, false] rfl rfl (by kernel_rfl) (fun _ _ _ h => h) (Or.inl ⟨by rfl, ?_⟩) ?_ ?_
  rotate_left
  · intro w'
    go_simp
    with_reducible rfl
  rotate_left
  · simp only [Act.put, List.setIfInBounds_toArray, List.set_cons_zero, List.set_cons_succ, i64_w, i32_w]
    rfl
  refine pure_ (i := 7) (N := some 13) (v := ?_) (a' := ?_) #[true, true, true, true, false, true, true, true, false, false, false, false, false, false, false, false] rfl rfl (by kernel_rfl) (fun _ _ _ h => h) (Or.inl ⟨by rfl, ?_⟩) ?_ ?_
  rotate_left
  · intro w'
    go_simp
    with_reducible rfl
  rotate_left
  · simp only [Act.put, List.setIfInBounds_toArray, List.set_cons_zero, List.set_cons_succ, i64_w, i32_w]
    rfl
  refine pure_ (i := 8) (N := some 14) (v := ?_) (a' := ?_) #[true, true, true, true, false, true, true, true, true, false, false, false, false, false, false, false] rfl rfl (by kernel_rfl) (fun _ _ _ h => h) (Or.inl ⟨by rfl, ?_⟩) ?_ ?_
  rotate_left
  · intro w'
    go_simp
    with_reducible rfl
  rotate_left
  · simp only [Act.put, List.setIfInBounds_toArray, List.set_cons_zero, List.set_cons_succ, i64_w, i32_w]
    rfl
  refine take_ (i := 4) (N := some 10) (v := ?_) (a' := ?_) #[true, true, true, true, true, true, true, true, true, false, false, false, false, false, false, false] rfl rfl (by kernel_rfl) (fun _ _ _ h => h) (Or.inl ⟨by rfl, ?_⟩) hHeld ?_ ?_
  rotate_left
  · rintro w' ⟨s0, s1, s2⟩
    go_simp
    with_reducible rfl
  rotate_left
  · simp only [Act.put, List.setIfInBounds_toArray, List.set_cons_zero, List.set_cons_succ, i64_w, i32_w]
    rfl
  refine take_ (i := 9) (N := some 15) (v := ?_) (a' := ?_) #[true, true, true, true, true, true, true, true, true, true, false, false, false, false, false, false] rfl rfl (by kernel_rfl) (fun _ _ _ h => h) (Or.inl ⟨by rfl, ?_⟩) hHeld ?_ ?_
  rotate_left
  · rintro w' ⟨s0, s1, s2⟩
    go_simp
    with_reducible rfl
  rotate_left
  · simp only [Act.put, List.setIfInBounds_toArray, List.set_cons_zero, List.set_cons_succ, i64_w, i32_w]
    rfl
  refine pure_ (i := 10) (N := some 16) (v := ?_) (a' := ?_) #[true, true, true, true, true, true, true, true, true, true, true, false, false, false, false, false] rfl rfl (by kernel_rfl) (fun _ _ _ h => h) (Or.inl ⟨by rfl, ?_⟩) ?_ ?_
  rotate_left
  · intro w'
    go_simp
    with_reducible rfl
  rotate_left
  · simp only [Act.put, List.setIfInBounds_toArray, List.set_cons_zero, List.set_cons_succ, i64_w, i32_w]
    rfl
  refine one_ (i := 11) (N := some 17) #[true, true, true, true, true, true, true, true, true, true, true, true, false, false, false, false] rfl rfl (by kernel_rfl) (by decide) (fun K hK => ?_)
  refine value_ (w1 := ?_) (v := ?_) (by rfl) rfl ?_ ?_
  rotate_left 2
  · go_simp
    constructor
    · rfl
    · rfl
  refine hK.out _ _ ⟨(blk_cell (blk_alloc BK.out _) 0).trans rfl, (blk_cell (blk_alloc BK.out _) 1).trans rfl, (blk_cell (blk_alloc BK.out _) 2).trans rfl⟩ (fun hHeld => ?_)
  clear hK K
  refine norm_ (a' := ?_) ?_ ?_
  rotate_left
  · show Act.put _ (some 17) _ = _
    simp only [Act.put, List.setIfInBounds_toArray, List.set_cons_zero, List.set_cons_succ, i64_w, i32_w]
    rfl
  refine one_ (i := 12) (N := some 18) #[true, true, true, true, true, true, true, true, true, true, true, true, true, false, false, false] rfl rfl (by kernel_rfl) (by decide) (fun K hK => ?_)
  refine Kd.R_append_step k59 (w0 := w0) w0.heap.size (by rfl) (.tmp 10) (.tmp 17) 23 59 (.agg #[(.int .i64 0), (.int .i64 0), (.int .i64 0)]) 24 rfl Try.underlying23 info59 rfl (by decide) (by omega) (.slice D ts.length d) ts (⟨2, (at_ : Int), a0⟩ : S59) [.int .i64 2, .int .i64 (at_ : Int), .int .i64 a0] (fun _ => True) (fun _ => False) rfl rfl ?aP (fun _ h => h.elim) ?aF ?aO ?aB ?aS ?aL ?_
  (case aP => exact k59_mkM _ _ _ (⟨2, (at_ : Int), a0⟩ : S59))
  (case aF => exact (fun _ _ => trivial))
  (case aO => exact (by (with_reducible repeat (first | apply Kd.R_alloc | apply Kd.R_drewN | apply Kd.R_drew)); exact HR.out))
  (case aB => exact (by repeat (first | (with_reducible first | exact HB.out | apply below_alloc | apply pw_below_drewN | apply below_drew1) | exact HB.out)))
  (case aS => exact (below_size (by repeat (first | (with_reducible first | exact HB.out | apply below_alloc | apply pw_below_drewN | apply below_drew1) | exact HB.out))))
  (case aL => have := HLG.out; omega)
  intro v200 w28 ho hb hg hat
  obtain ⟨D2, d2, eo2⟩ := Kd.R_slice ho
  subst eo2
  have n0_ := Aside0.mk (Kd.S_over' HS.out (Kd.R_typed HR.out) (by decide) hg)
  have n1_ := Aside0.mk (blk_grown BK.out hg (Kd.R_ne HR.out BK.out (by decide)))
  have n2_ := Aside0.mk hb
  have n3_ : Aside0 (Kd.R k59 59 w28 w0.heap.size (fun _ => True) (.slice D2 (ts.length + 1) d2) (ts ++ [(⟨2, (at_ : Int), a0⟩ : S59)])) := ⟨by have h_ := ho; rw [List.length_append] at h_; exact h_⟩
  have n4_ := Aside0.mk (fun (k : Nat) (ce : Array Value) (t : Nat) (hk : k ≠ g) (ht : t ≠ 59) (hc : t ≠ 50) h => blk_grown (HO.out k ce t hk ht hc h) hg (Kd.R_ne HR.out (HO.out k ce t hk ht hc h) (Ne.symm ht)))
  clear HS BK HB HR HO ho hb hg hat
  have HS := n0_
  have BK := n1_
  have HB := n2_
  have HR := n3_
  have HO := n4_
  clear n0_ n1_ n2_ n3_ n4_
  simp only [List.length_append, List.length_singleton]
  refine hK.out _ _ ⟨(blk_cell BK.out 0).trans rfl, (blk_cell BK.out 1).trans rfl, (blk_cell BK.out 2).trans rfl⟩ (fun hHeld => ?_)
  clear hK K
  refine norm_ (a' := ?_) ?_ ?_
  rotate_left
  · show Act.put _ (some 18) _ = _
    simp only [Act.put, List.setIfInBounds_toArray, List.set_cons_zero, List.set_cons_succ, i64_w, i32_w]
    rfl
  refine pure_ (i := 13) (N := some 19) (v := ?_) (a' := ?_) #[true, true, true, true, true, true, true, true, true, true, true, true, true, true, false, false] rfl rfl (by kernel_rfl) (fun _ _ _ h => h) (Or.inl ⟨by rfl, ?_⟩) ?_ ?_
  rotate_left
  · intro w'
    go_simp
    with_reducible rfl
  rotate_left
  · simp only [Act.put, List.setIfInBounds_toArray, List.set_cons_zero, List.set_cons_succ, i64_w, i32_w]
    rfl
  refine pure_ (i := 14) (N := some 20) (v := ?_) (a' := ?_) #[true, true, true, true, true, true, true, true, true, true, true, true, true, true, true, false] rfl rfl (by kernel_rfl) (fun _ _ _ h => h) (Or.inl ⟨by rfl, ?_⟩) ?_ ?_
  rotate_left
  · intro w'
    go_simp
    with_reducible rfl
  rotate_left
  · simp only [Act.put, List.setIfInBounds_toArray, List.set_cons_zero, List.set_cons_succ, i64_w, i32_w]
    rfl
  refine last_ (i := 15) (N := none) #[true, true, true, true, true, true, true, true, true, true, true, true, true, true, true, true] rfl rfl (by kernel_rfl) (by decide) (fun K hK => ?_)
  have hs30 : w28.cell? ⟨g, 2, none⟩ = some (.slice D ts.length d) := (blk_cell BK.out 2).trans rfl
  have hfs30 := blk_frozen BK.out 2
  refine skip_ (w1 := ?_) (by rfl) rfl ?_ ?_
  rotate_left
  · go_simp
    rfl
  refine hK.out _ _ ?_
  clear hK K
  refine done_ (by kernel_rfl) ?_
  have n0_ := Aside0.mk (blk_put BK.out 2 (.slice D2 (ts.length + 1) d2) rfl)
  have n1_ := Aside0.mk (below_set HB.out HGE.out (j := 2) (v := .slice D2 (ts.length + 1) d2))
  have n2_ := Aside0.mk (Kd.S_set HS.out BK.out (by decide) 2 (.slice D2 (ts.length + 1) d2))
  have n3_ := Aside0.mk (Kd.R_mono (Kd.R_far (p := ⟨g, 2, none⟩) (Kd.R_types HR.out BK.out (by decide)) (fun _ hk => hk.2) (.slice D2 (ts.length + 1) d2)) (fun _ h_ => h_.1))
  have n4_ := Aside0.mk (fun (k : Nat) (ce : Array Value) (t : Nat) (hk : k ≠ g) (ht : t ≠ 59) (hc : t ≠ 50) h => blk_far (HO.out k ce t hk ht hc h) hk (p := ⟨g, 2, none⟩) (.slice D2 (ts.length + 1) d2))
  clear BK HB HS HR HO
  generalize w28.setCell ⟨g, 2, none⟩ (.slice D2 (ts.length + 1) d2) = w6 at n0_ n1_ n2_ n3_ n4_ ⊢
  have BK : Aside0 (w6.heap[g]? = some (.cells #[.int .i64 a0, .slice (some ⟨gr, 0, none⟩) cs.length c1, .slice D2 (ts.length + 1) d2] 25 (0, 0))) := ⟨n0_.out⟩
  have HB := n1_
  have HS := n2_
  have HR := n3_
  have HO := n4_
  clear n0_ n1_ n2_ n3_ n4_
  try go_wp2
  have n0_ := Aside0.mk (blk_drew BK.out)
  have n1_ := Aside0.mk (below_drew1 HB.out)
  have n2_ := Aside0.mk (Kd.S_drew HS.out)
  have n3_ := Aside0.mk (Kd.R_drew HR.out)
  have n4_ := Aside0.mk (fun (k : Nat) (ce : Array Value) (t : Nat) (hk : k ≠ g) (ht : t ≠ 59) (hc : t ≠ 50) h => blk_drew (HO.out k ce t hk ht hc h))
  clear BK HB HS HR HO
  have BK := n0_
  have HB := n1_
  have HS := n2_
  have HR := n3_
  have HO := n4_
  clear n0_ n1_ n2_ n3_ n4_
  refine start_ (n := 10) (S := fun w' => w'.cell? ⟨g, 0, none⟩ = some (.int .i64 a0) ∧ w'.cell? ⟨g, 1, none⟩ = some (.slice (some ⟨gr, 0, none⟩) cs.length c1) ∧ w'.cell? ⟨g, 2, none⟩ = some (.slice D2 (ts.length + 1) d2)) (ds := [9]) #[false, false, false, false, false, false, false, false, false, false] (by kernel_rfl) rfl rfl ⟨(blk_cell BK.out 0).trans rfl, (blk_cell BK.out 1).trans rfl, (blk_cell BK.out 2).trans rfl⟩ (fun hHeld => ?_)
  generalize w6.drew = w7 at BK HB HS HR HO hHeld ⊢
  have p1 : (0 ≤ (at_ : Int)) = True := eq_true (Int.natCast_nonneg _)
  have p2 : ((at_ : Int) < (cs.length : Int)) = True := eq_true (by have := HAT.out; omega)
  have p3 : (at_ < cs.length) = True := eq_true HAT.out
  refine pure_ (i := 0) (N := some 21) (v := ?_) (a' := ?_) #[true, false, false, false, false, false, false, false, false, false] rfl rfl (by kernel_rfl) (fun _ _ _ h => h) (Or.inl ⟨by rfl, ?_⟩) ?_ ?_
  rotate_left
  · intro w'
    go_simp
    with_reducible rfl
  rotate_left
  · simp only [Act.put, List.setIfInBounds_toArray, List.set_cons_zero, List.set_cons_succ, i64_w, i32_w]
    rfl
  refine pure_ (i := 1) (N := some 22) (v := ?_) (a' := ?_) #[true, true, false, false, false, false, false, false, false, false] rfl rfl (by kernel_rfl) (fun _ _ _ h => h) (Or.inl ⟨by rfl, ?_⟩) ?_ ?_
  rotate_left
  · intro w'
    go_simp
    with_reducible rfl
  rotate_left
  · simp only [Act.put, List.setIfInBounds_toArray, List.set_cons_zero, List.set_cons_succ, i64_w, i32_w]
    rfl
  refine pure_ (i := 2) (N := some 23) (v := ?_) (a' := ?_) #[true, true, true, false, false, false, false, false, false, false] rfl rfl (by kernel_rfl) (fun _ _ _ h => h) (Or.inl ⟨by rfl, ?_⟩) ?_ ?_
  rotate_left
  · intro w'
    go_simp
    with_reducible rfl
  rotate_left
  · simp only [Act.put, List.setIfInBounds_toArray, List.set_cons_zero, List.set_cons_succ, i64_w, i32_w]
    rfl
  refine pure_ (i := 4) (N := some 25) (v := ?_) (a' := ?_) #[true, true, true, false, true, false, false, false, false, false] rfl rfl (by kernel_rfl) (fun _ _ _ h => h) (Or.inl ⟨by rfl, ?_⟩) ?_ ?_
  rotate_left
  · intro w'
    go_simp
    with_reducible rfl
  rotate_left
  · simp only [Act.put, List.setIfInBounds_toArray, List.set_cons_zero, List.set_cons_succ, i64_w, i32_w]
    rfl
  refine pure_ (i := 5) (N := some 26) (v := ?_) (a' := ?_) #[true, true, true, false, true, true, false, false, false, false] rfl rfl (by kernel_rfl) (fun _ _ _ h => h) (Or.inl ⟨by rfl, ?_⟩) ?_ ?_
  rotate_left
  · intro w'
    go_simp
    with_reducible rfl
  rotate_left
  · simp only [Act.put, List.setIfInBounds_toArray, List.set_cons_zero, List.set_cons_succ, i64_w, i32_w]
    rfl
  refine take_ (i := 3) (N := some 24) (v := ?_) (a' := ?_) #[true, true, true, true, true, true, false, false, false, false] rfl rfl (by kernel_rfl) (fun _ _ _ h => h) (Or.inl ⟨by rfl, ?_⟩) hHeld ?_ ?_
  rotate_left
  · rintro w' ⟨s0, s1, s2⟩
    go_simp
    with_reducible rfl
  rotate_left
  · simp only [Act.put, List.setIfInBounds_toArray, List.set_cons_zero, List.set_cons_succ, i64_w, i32_w]
    rfl
  refine one_ (i := 6) (N := some 27) #[true, true, true, true, true, true, true, false, false, false] rfl rfl (by kernel_rfl) (by decide) (fun K hK => ?_)
  refine goes_ Try.func42 (by kernel_rfl) rfl #[.slice B xs.length b] (by rfl) rfl rfl (by simp only [List.map_toArray, List.map_cons, List.map_nil]; rfl) ?_
  with_reducible refine (bytes_Clone.calls B b xs xs _ (Kd.C_below HX.out HB.out) HXB.out (by unfold bytes_Clone.f; rw [if_pos HXS.out])).mono ?_
  rintro e w8 ⟨v8, rfl, ho0, hb⟩
  refine ⟨_, rfl, ?_⟩
  obtain ⟨A3, c3, rfl⟩ := Kd.R_slice ho0
  have n0_ := Aside0.mk (Kd.S_elder' HS.out (Kd.R_base ho0) hb)
  have n1_ := Aside0.mk (Kd.R_below HR.out hb)
  have n2_ := Aside0.mk ((Below.block hb _ (blk_lt BK.out)).trans BK.out)
  have n3_ := Aside0.mk (Kd.R_lower ho0 (below_size HB.out))
  have n4_ := Aside0.mk (below_step HB.out hb)
  have n5_ := Aside0.mk (Kd.R_base ho0)
  have n6_ := Aside0.mk (Kd.S_lt HS.out gr rfl)
  have n7_ := Aside0.mk (fun (k : Nat) (ce : Array Value) (t : Nat) (hk : k ≠ g) (ht : t ≠ 59) (hc : t ≠ 50) h => (Below.block hb _ (blk_lt (HO.out k ce t hk ht hc h))).trans (HO.out k ce t hk ht hc h))
  clear HS HR BK HB HO ho0 hb
  have HO := n7_
  clear n7_
  have HS := n0_
  have HR := n1_
  have BK := n2_
  have HV := n3_
  have HB := n4_
  clear n0_ n1_ n2_ n3_ n4_
  refine hK.out _ _ ⟨(blk_cell BK.out 0).trans rfl, (blk_cell BK.out 1).trans rfl, (blk_cell BK.out 2).trans rfl⟩ (fun hHeld => ?_)
  clear hK K
  refine norm_ (a' := ?_) ?_ ?_
  rotate_left
  · show Act.put _ (some 27) _ = _
    simp only [Act.put, List.setIfInBounds_toArray, List.set_cons_zero, List.set_cons_succ, i64_w, i32_w]
    rfl
  refine pure_ (i := 7) (N := some 28) (v := ?_) (a' := ?_) #[true, true, true, true, true, true, true, true, false, false] rfl rfl (by kernel_rfl) (fun _ _ _ h => h) (Or.inl ⟨by rfl, ?_⟩) ?_ ?_
  rotate_left
  · intro w'
    go_simp
    with_reducible rfl
  rotate_left
  · simp only [Act.put, List.setIfInBounds_toArray, List.set_cons_zero, List.set_cons_succ, i64_w, i32_w]
    rfl
  refine pure_ (i := 8) (N := some 29) (v := ?_) (a' := ?_) #[true, true, true, true, true, true, true, true, true, false] rfl rfl (by kernel_rfl) (fun _ _ _ h => h) (Or.inl ⟨by rfl, ?_⟩) ?_ ?_
  rotate_left
  · intro w'
    go_simp
    with_reducible rfl
  rotate_left
  · simp only [Act.put, List.setIfInBounds_toArray, List.set_cons_zero, List.set_cons_succ, i64_w, i32_w]
    rfl
  refine last_ (i := 9) (N := none) #[true, true, true, true, true, true, true, true, true, true] rfl rfl (by kernel_rfl) (by decide) (fun K hK => ?_)
  obtain ⟨oki, cc, hcl, hM, hcc, hoki, hH⟩ := Kd.S_lend HS.out z50 (at_ : Int) (Int.natCast_nonneg _) (by have := HAT.out; omega)
  obtain ⟨v9, rfl, hR9⟩ := k50_openM hM
  have hx0 : w8.cell? ⟨gr, at_, none⟩ = some v9 := by have h := hcc 0 _ rfl; rw [show ((at_ : Int).toNat * k50.sz + 0) = at_ from by show ((at_ : Int).toNat * 1 + 0) = at_; omega] at h; exact h
  have hfx0 : w8.frozen? ⟨gr, at_, none⟩ = false := by have h := (Kd.H_at hH (Int.natCast_nonneg _) (by have := HAT.out; omega)).2 0; rw [show ((at_ : Int).toNat * k50.sz + 0) = at_ from by show ((at_ : Int).toNat * 1 + 0) = at_; omega] at h; exact h
  have n7_ := Aside0.mk (Kd.S_seg (okg := fun k => some k = (Value.slice A3 xs.length c3).ownBlock) (okp := fun k => some k = (Value.slice A3 xs.length c3).ownBlock) hH (Int.natCast_nonneg _) (by have := HAT.out; omega) (seg := [.slice A3 xs.length c3]) (j := 0) (by show 0 + 1 ≤ 1; decide) (x' := (⟨xs⟩ : S50)) (k50_mkM _ _ _ ⟨xs⟩ (Kd.R_tight rfl HV.out)) (fun k hk => .inr hk) (fun k hk => ⟨trivial, fun he => by have h1 := n5_.out k hk.symm; have h2 := n6_.out; omega⟩))
  have n8_ : Aside0 (∃ q, w8.heap[gr]? = some q) := ⟨⟨_, (Array.getElem?_eq_getElem (by have h := Kd.S_lt HS.out gr rfl; exact h))⟩⟩
  have n9_ := Aside0.mk (Kd.S_base HS.out gr rfl)
  have n10_ := Aside0.mk (Kd.S_ne HS.out BK.out (by decide))
  have n11_ := Aside0.mk (Kd.R_over' HR.out (Kd.S_typed HS.out) (by decide) n7_.out.2)
  clear hcl hM hcc hoki hH hR9 HV
  refine skip_ (w1 := ?_) (by rfl) rfl ?_ ?_
  rotate_left
  · go_simp
    rfl
  refine hK.out _ _ ?_
  clear hK K
  refine done_ (by kernel_rfl) ?_
  have hw : w8.setCells gr ((at_ : Int).toNat * k50.sz + 0) [.slice A3 xs.length c3] = w8.setCell ⟨gr, at_, none⟩ (.slice A3 xs.length c3) := by
    rw [show ((at_ : Int).toNat * k50.sz + 0) = at_ from by show ((at_ : Int).toNat * 1 + 0) = at_; omega]
    rfl
  have n7 := n7_.out
  have n11 := n11_.out
  rw [hw] at n7 n11
  rw [Int.toNat_natCast] at n7
  have hbk2 := blk_grown BK.out n7.2 (n10_.out)
  have hb2 := below_set HB.out n9_.out (j := at_) (v := .slice A3 xs.length c3)
  go_wp2
  refine bodyPost_end (results_none rfl _ _ _) rfl ?_
  exact ⟨D2, d2, by first | rfl | (simp; done), hbk2, n7.1, n11, hb2, fun k ce t hk ht hc h => blk_grown (HO.out k ce t hk ht hc h) n7.2 (Kd.S_ne HS.out (HO.out k ce t hk ht hc h) (Ne.symm hc))⟩

set_option maxHeartbeats 8000000 in
set_option maxRecDepth 100000 in
theorem implMemWrite_calls (a0 : Int) (A1 : Option Addr) (c1 : Nat) (cs : List S50) (A2 : Option Addr) (c2 : Nat) (ts : List S59) (a1 : Int) (A3 : Option Addr) (c3 : Nat) (xs : List Int) (w : World) (hr1 : Kd.C k50 w A1 cs.length cs) (hc1 : cs.length ≤ c1) (hr2 : Kd.C k59 w A2 ts.length ts) (hc2 : ts.length ≤ c2) (hr3 : Kd.C (Kd.int .u8) w A3 xs.length xs) (hc3 : xs.length ≤ c3) (hx3 : xs.length < 140737488355328) :
    Calls Try.prog 26 #[.agg #[.int .i64 a0, .slice A1 cs.length c1, .slice A2 ts.length c2], .int .i64 a1, .slice A3 xs.length c3] w fun e w' => ∃ v1_ v2_ : Value, e = .returned (.tuple #[.agg #[.int .i64 (memWriteF a0 cs ts a1 xs).1, v1_, v2_], .int .i64 (memWriteF a0 cs ts a1 xs).2.2.2]) ∧ Kd.S k50 50 w' w.heap.size (fun _ => True) v1_ (memWriteF a0 cs ts a1 xs).2.1 ∧ Kd.R k59 59 w' w.heap.size (fun _ => True) v2_ (memWriteF a0 cs ts a1 xs).2.2.1 ∧ Below w.heap.size w w' := by
  have hu25 := Try.underlying25
  have HR1 := Aside0.mk hr1
  have HC1 := Aside0.mk hc1
  have HR2 := Aside0.mk hr2
  have HC2 := Aside0.mk hc2
  have HB := Aside0.mk (Below.refl w.heap.size w)
  clear hr1 hc1 hr2 hc2
  have HR3 := Aside0.mk hr3
  have HC3 := Aside0.mk hc3
  have HX3 := Aside0.mk hx3
  clear hr3 hc3 hx3
  by_cases hm : memB a0 cs ts = true
  · have hb := memB_bounds hm
    have AM := Aside0.mk (impl_isMem_f a0 cs ts (k := 6201) (by omega))
    rw [hm] at AM
    have hw64 : wrap64 ((cs.length : Int) - 1) = (cs.length : Int) - 1 := w64 (by omega) (by omega)
    by_cases hq : 0 ≤ a1 ∧ a1 < (cs.length : Int)
    · have AQ : Aside0 (impl_within.f a1 0 (wrap64 ((cs.length : Int) - 1)) = some true) := ⟨by rw [within_f, hw64, decide_eq_true (by omega)]⟩
      by_cases hs : (xs.length : Int) = a0
      · have cs0b1 : ((xs.length : Int) != a0) = false := bne_eq_false_iff_eq.mpr hs
        have cs0b0 : ((xs.length : Int) == a0) = true := beq_iff_eq.mpr hs
        by_cases hf : ts.length = 6000
        · have hfb0 : ((ts.length : Int) == 6000) = true := beq_iff_eq.mpr (by omega)
          have hfb1 : ((ts.length : Int) != 6000) = false := bne_eq_false_iff_eq.mpr (by omega)
          clear hb hw64
          have hF : memWriteF a0 cs ts a1 xs = (0, [], [], 4) := by unfold memWriteF; rw [if_pos hm, if_pos hq, if_pos hs, if_pos hf]
          rw [hF]
          clear hF hf hs
          go_enter Try.func26, Try.ntmps26
          go_wp2_with (first | ((with_reducible refine gate_dst (N := 3) rfl ?_); (try (refine gate_guard (by rfl) ?_; dsimp only)); refine box_event ?hg (N := 3) ?hd (cs := #[.int .i64 a0, .slice A1 cs.length c1, .slice A2 ts.length c2]) (t := 25) ?hr ?_; (case hd => rfl); (case hg => rfl); (case hr => first | (go_simp; done) | (go_simp; rfl)); intro gb2 hg w62 hbox hb; have BK2 := Aside0.mk (hbox); have GE2 := Aside0.mk ((by rw [hg]; exact (below_size (by repeat first | exact HB.out | apply below_alloc | apply pw_below_drewN | apply below_drew1)) : w.heap.size ≤ gb2)); replace HB := Aside0.mk (below_step (by repeat first | exact HB.out | apply below_alloc | apply pw_below_drewN | apply below_drew1) hb); clear hb hbox hg; have hcz2_0 : w62.cell? ⟨gb2, 0, none⟩ = some (.int .i64 a0) := (blk_cell BK2.out 0).trans rfl; have hcz2_1 : w62.cell? ⟨gb2, 1, none⟩ = some (.slice A1 cs.length c1) := (blk_cell BK2.out 1).trans rfl; have hcz2_2 : w62.cell? ⟨gb2, 2, none⟩ = some (.slice A2 ts.length c2) := (blk_cell BK2.out 2).trans rfl) | ((with_reducible refine gate_dst (N := 6) rfl ?_); (try (refine gate_guard (by rfl) ?_; dsimp only)); refine box_event ?hg (N := 6) ?hd (cs := #[.int .i64 0, .slice none 0 0, .slice none 0 0]) (t := 25) ?hr ?_; (case hd => rfl); (case hg => rfl); (case hr => first | (go_simp; done) | (go_simp; rfl)); intro gb3 hg w63 hbox hb; have BK3 := Aside0.mk (hbox); have GE3 := Aside0.mk ((by rw [hg]; exact (below_size (by repeat first | exact HB.out | apply below_alloc | apply pw_below_drewN | apply below_drew1)) : w.heap.size ≤ gb3)); have NB2_3 := Aside0.mk ((by rw [hg]; exact Nat.ne_of_lt (blk_lt (g := gb2) (o := .cells #[.int .i64 a0, .slice A1 cs.length c1, .slice A2 ts.length c2] 25 (0, 0)) (by repeat first | exact BK2.out | apply blk_drewN | apply blk_drew | apply blk_alloc)) : gb2 ≠ gb3)); have NB3_2 := Aside0.mk (NB2_3.out.symm); replace BK2 := Aside0.mk (blk_below (g := gb2) (o := .cells #[.int .i64 a0, .slice A1 cs.length c1, .slice A2 ts.length c2] 25 (0, 0)) (by repeat first | exact BK2.out | apply blk_drewN | apply blk_drew | apply blk_alloc) hb); replace HB := Aside0.mk (below_step (by repeat first | exact HB.out | apply below_alloc | apply pw_below_drewN | apply below_drew1) hb); clear hb hbox hg; have hnb2_3 := NB2_3.out; have hnc3_2 := NB3_2.out; have hcz3_0 : w63.cell? ⟨gb3, 0, none⟩ = some (.int .i64 0) := (blk_cell BK3.out 0).trans rfl; have hcz3_1 : w63.cell? ⟨gb3, 1, none⟩ = some (.slice none 0 0) := (blk_cell BK3.out 1).trans rfl; have hcz3_2 : w63.cell? ⟨gb3, 2, none⟩ = some (.slice none 0 0) := (blk_cell BK3.out 2).trans rfl; have hfz3_0 := blk_frozen BK3.out 0; have hfz3_1 := blk_frozen BK3.out 1; have hfz3_2 := blk_frozen BK3.out 2; have hcy2_0 : w63.cell? ⟨gb2, 0, none⟩ = some (.int .i64 a0) := (blk_cell BK2.out 0).trans rfl; have hcy2_1 : w63.cell? ⟨gb2, 1, none⟩ = some (.slice A1 cs.length c1) := (blk_cell BK2.out 1).trans rfl; have hcy2_2 : w63.cell? ⟨gb2, 2, none⟩ = some (.slice A2 ts.length c2) := (blk_cell BK2.out 2).trans rfl) | ((with_reducible refine gate_callee (f := 39) rfl ?_); refine goesL_ (some 11) rfl rfl Try.func39 (by kernel_rfl) rfl #[.agg #[.int .i64 a0, .slice A1 cs.length c1, .slice A2 ts.length c2]] rfl (by (try simp only [List.map_toArray, List.map_cons, List.map_nil]); first | done | rfl) ?_; (with_reducible refine (impl_isMem.calls 6201 a0 _ _ cs _ _ ts true _ ?side1 ?side2 ?side3 ?side4 AM.out).mono ?_); (case side1 => (repeat (first | exact (Kd.C_below HR1.out HB.out) | (with_reducible refine Kd.C_alloc ?_ _) | (with_reducible refine Kd.C_drewN ?_ _) | (with_reducible refine Kd.C_drew ?_)))); (case side2 => exact HC1.out); (case side3 => (repeat (first | exact (Kd.C_below HR2.out HB.out) | (with_reducible refine Kd.C_alloc ?_ _) | (with_reducible refine Kd.C_drewN ?_ _) | (with_reducible refine Kd.C_drew ?_)))); (case side4 => exact HC2.out); rintro e w10 ⟨rfl, hb⟩; refine ⟨_, rfl, ?_⟩; replace BK2 := Aside0.mk (blk_below (g := gb2) (o := .cells #[.int .i64 a0, .slice A1 cs.length c1, .slice A2 ts.length c2] 25 (0, 0)) (by repeat first | exact BK2.out | apply blk_drewN | apply blk_drew | apply blk_alloc) hb); replace BK3 := Aside0.mk (blk_below (g := gb3) (o := .cells #[.int .i64 0, .slice none 0 0, .slice none 0 0] 25 (0, 0)) (by repeat first | exact BK3.out | apply blk_drewN | apply blk_drew | apply blk_alloc) hb); replace HB := Aside0.mk (below_step (by repeat first | exact HB.out | apply below_alloc | apply pw_below_drewN | apply below_drew1) hb); clear hb; have hcy2_0 : w10.cell? ⟨gb2, 0, none⟩ = some (.int .i64 a0) := (blk_cell BK2.out 0).trans rfl; have hcy2_1 : w10.cell? ⟨gb2, 1, none⟩ = some (.slice A1 cs.length c1) := (blk_cell BK2.out 1).trans rfl; have hcy2_2 : w10.cell? ⟨gb2, 2, none⟩ = some (.slice A2 ts.length c2) := (blk_cell BK2.out 2).trans rfl; have hcy3_0 : w10.cell? ⟨gb3, 0, none⟩ = some (.int .i64 0) := (blk_cell BK3.out 0).trans rfl; have hcy3_1 : w10.cell? ⟨gb3, 1, none⟩ = some (.slice none 0 0) := (blk_cell BK3.out 1).trans rfl; have hcy3_2 : w10.cell? ⟨gb3, 2, none⟩ = some (.slice none 0 0) := (blk_cell BK3.out 2).trans rfl; have hfy3_0 := blk_frozen BK3.out 0; have hfy3_1 := blk_frozen BK3.out 1; have hfy3_2 := blk_frozen BK3.out 2) | ((with_reducible refine gate_callee (f := 27) rfl ?_); refine goesL_ (some 20) rfl rfl Try.func27 (by kernel_rfl) rfl #[.int .i64 a1, .int .i64 0, .int .i64 (wrap64 ((cs.length : Int) - 1))] rfl (by (try simp only [List.map_toArray, List.map_cons, List.map_nil]); first | done | rfl) ?_; (with_reducible refine (impl_within.calls a1 0 (wrap64 ((cs.length : Int) - 1)) true _ AQ.out).mono ?_); rintro e w' ⟨rfl, ⟨nd, rfl⟩⟩; refine ⟨_, rfl, ?_⟩))
          refine bodyPost_ret (results_ct rfl _ _ gb3 25 #[.int .i64 0, .slice none 0 0, .slice none 0 0] (0, 0) _ rfl (by (with_reducible repeat (first | refine blk_drewN ?_ _ | refine blk_drew ?_ | refine blk_alloc ?_ _)); refine blk_put (cs := #[.int .i64 0, .slice none 0 0, .slice none 0 0]) ?_ 2 _ rfl; (with_reducible repeat (first | refine blk_drewN ?_ _ | refine blk_drew ?_ | refine blk_alloc ?_ _)); refine blk_put (cs := #[.int .i64 0, .slice none 0 0, .slice none 0 0]) ?_ 1 _ rfl; (with_reducible repeat (first | refine blk_drewN ?_ _ | refine blk_drew ?_ | refine blk_alloc ?_ _)); refine blk_put (cs := #[.int .i64 0, .slice none 0 0, .slice none 0 0]) ?_ 0 _ rfl; (with_reducible repeat (first | refine blk_drewN ?_ _ | refine blk_drew ?_ | refine blk_alloc ?_ _)); exact BK3.out) Try.underlying25 rfl (by kernel_rfl)) rfl ?_
          exact ⟨_, _, by first | rfl | (simp; done) | (simp [*]; done), by first | exact Kd.S_nil _ _ _ _ _ | exact Kd.R_nil _ _ _ _ _, by first | exact Kd.S_nil _ _ _ _ _ | exact Kd.R_nil _ _ _ _ _, by repeat (first | (with_reducible first | exact HB.out | apply below_alloc | apply pw_below_drewN | apply below_drew1 | refine below_set ?_ GE2.out | refine below_set ?_ GE3.out | refine below_set ?_ GE4.out) | exact HB.out)⟩
        · have hfb0 : ((ts.length : Int) == 6000) = false := beq_eq_false_iff_ne.mpr (by omega)
          have hfb1 : ((ts.length : Int) != 6000) = true := bne_iff_ne.mpr (by omega)
          obtain ⟨n, rfl⟩ := Int.eq_ofNat_of_zero_le hq.1
          have AN : Aside0 (n < cs.length) := ⟨by omega⟩
          have AT : Aside0 (ts.length ≤ 1000000) := ⟨by omega⟩
          have AC := Aside0.mk (cloneMem_f a0 cs ts (k := 200) (by omega) (by omega) (memB_all hm) (by omega))
          have hF : memWriteF a0 cs ts (n : Int) xs = (a0, cs.set n ⟨xs⟩, ts ++ [⟨2, (n : Int), a0⟩], 0) := by unfold memWriteF; rw [if_pos hm, if_pos hq, if_pos hs, if_neg hf, Int.toNat_natCast]
          rw [hF]
          clear hF hb hw64 hf hs
          go_enter Try.func26, Try.ntmps26
          go_wp2_with (first | ((with_reducible refine gate_dst (N := 3) rfl ?_); (try (refine gate_guard (by rfl) ?_; dsimp only)); refine box_event ?hg (N := 3) ?hd (cs := #[.int .i64 a0, .slice A1 cs.length c1, .slice A2 ts.length c2]) (t := 25) ?hr ?_; (case hd => rfl); (case hg => rfl); (case hr => first | (go_simp; done) | (go_simp; rfl)); intro gb2 hg w62 hbox hb; have BK2 := Aside0.mk (hbox); have GE2 := Aside0.mk ((by rw [hg]; exact (below_size (by repeat first | exact HB.out | apply below_alloc | apply pw_below_drewN | apply below_drew1)) : w.heap.size ≤ gb2)); replace HB := Aside0.mk (below_step (by repeat first | exact HB.out | apply below_alloc | apply pw_below_drewN | apply below_drew1) hb); clear hb hbox hg; have hcz2_0 : w62.cell? ⟨gb2, 0, none⟩ = some (.int .i64 a0) := (blk_cell BK2.out 0).trans rfl; have hcz2_1 : w62.cell? ⟨gb2, 1, none⟩ = some (.slice A1 cs.length c1) := (blk_cell BK2.out 1).trans rfl; have hcz2_2 : w62.cell? ⟨gb2, 2, none⟩ = some (.slice A2 ts.length c2) := (blk_cell BK2.out 2).trans rfl) | ((with_reducible refine gate_dst (N := 6) rfl ?_); (try (refine gate_guard (by rfl) ?_; dsimp only)); refine box_event ?hg (N := 6) ?hd (cs := #[.int .i64 0, .slice none 0 0, .slice none 0 0]) (t := 25) ?hr ?_; (case hd => rfl); (case hg => rfl); (case hr => first | (go_simp; done) | (go_simp; rfl)); intro gb3 hg w63 hbox hb; have BK3 := Aside0.mk (hbox); have GE3 := Aside0.mk ((by rw [hg]; exact (below_size (by repeat first | exact HB.out | apply below_alloc | apply pw_below_drewN | apply below_drew1)) : w.heap.size ≤ gb3)); have NB2_3 := Aside0.mk ((by rw [hg]; exact Nat.ne_of_lt (blk_lt (g := gb2) (o := .cells #[.int .i64 a0, .slice A1 cs.length c1, .slice A2 ts.length c2] 25 (0, 0)) (by repeat first | exact BK2.out | apply blk_drewN | apply blk_drew | apply blk_alloc)) : gb2 ≠ gb3)); have NB3_2 := Aside0.mk (NB2_3.out.symm); replace BK2 := Aside0.mk (blk_below (g := gb2) (o := .cells #[.int .i64 a0, .slice A1 cs.length c1, .slice A2 ts.length c2] 25 (0, 0)) (by repeat first | exact BK2.out | apply blk_drewN | apply blk_drew | apply blk_alloc) hb); replace HB := Aside0.mk (below_step (by repeat first | exact HB.out | apply below_alloc | apply pw_below_drewN | apply below_drew1) hb); clear hb hbox hg; have hnb2_3 := NB2_3.out; have hnc3_2 := NB3_2.out; have hcz3_0 : w63.cell? ⟨gb3, 0, none⟩ = some (.int .i64 0) := (blk_cell BK3.out 0).trans rfl; have hcz3_1 : w63.cell? ⟨gb3, 1, none⟩ = some (.slice none 0 0) := (blk_cell BK3.out 1).trans rfl; have hcz3_2 : w63.cell? ⟨gb3, 2, none⟩ = some (.slice none 0 0) := (blk_cell BK3.out 2).trans rfl; have hfz3_0 := blk_frozen BK3.out 0; have hfz3_1 := blk_frozen BK3.out 1; have hfz3_2 := blk_frozen BK3.out 2; have hcy2_0 : w63.cell? ⟨gb2, 0, none⟩ = some (.int .i64 a0) := (blk_cell BK2.out 0).trans rfl; have hcy2_1 : w63.cell? ⟨gb2, 1, none⟩ = some (.slice A1 cs.length c1) := (blk_cell BK2.out 1).trans rfl; have hcy2_2 : w63.cell? ⟨gb2, 2, none⟩ = some (.slice A2 ts.length c2) := (blk_cell BK2.out 2).trans rfl) | ((with_reducible refine gate_callee (f := 39) rfl ?_); refine goesL_ (some 11) rfl rfl Try.func39 (by kernel_rfl) rfl #[.agg #[.int .i64 a0, .slice A1 cs.length c1, .slice A2 ts.length c2]] rfl (by (try simp only [List.map_toArray, List.map_cons, List.map_nil]); first | done | rfl) ?_; (with_reducible refine (impl_isMem.calls 6201 a0 _ _ cs _ _ ts true _ ?side1 ?side2 ?side3 ?side4 AM.out).mono ?_); (case side1 => (repeat (first | exact (Kd.C_below HR1.out HB.out) | (with_reducible refine Kd.C_alloc ?_ _) | (with_reducible refine Kd.C_drewN ?_ _) | (with_reducible refine Kd.C_drew ?_)))); (case side2 => exact HC1.out); (case side3 => (repeat (first | exact (Kd.C_below HR2.out HB.out) | (with_reducible refine Kd.C_alloc ?_ _) | (with_reducible refine Kd.C_drewN ?_ _) | (with_reducible refine Kd.C_drew ?_)))); (case side4 => exact HC2.out); rintro e w10 ⟨rfl, hb⟩; refine ⟨_, rfl, ?_⟩; replace BK2 := Aside0.mk (blk_below (g := gb2) (o := .cells #[.int .i64 a0, .slice A1 cs.length c1, .slice A2 ts.length c2] 25 (0, 0)) (by repeat first | exact BK2.out | apply blk_drewN | apply blk_drew | apply blk_alloc) hb); replace BK3 := Aside0.mk (blk_below (g := gb3) (o := .cells #[.int .i64 0, .slice none 0 0, .slice none 0 0] 25 (0, 0)) (by repeat first | exact BK3.out | apply blk_drewN | apply blk_drew | apply blk_alloc) hb); replace HB := Aside0.mk (below_step (by repeat first | exact HB.out | apply below_alloc | apply pw_below_drewN | apply below_drew1) hb); clear hb; have hcy2_0 : w10.cell? ⟨gb2, 0, none⟩ = some (.int .i64 a0) := (blk_cell BK2.out 0).trans rfl; have hcy2_1 : w10.cell? ⟨gb2, 1, none⟩ = some (.slice A1 cs.length c1) := (blk_cell BK2.out 1).trans rfl; have hcy2_2 : w10.cell? ⟨gb2, 2, none⟩ = some (.slice A2 ts.length c2) := (blk_cell BK2.out 2).trans rfl; have hcy3_0 : w10.cell? ⟨gb3, 0, none⟩ = some (.int .i64 0) := (blk_cell BK3.out 0).trans rfl; have hcy3_1 : w10.cell? ⟨gb3, 1, none⟩ = some (.slice none 0 0) := (blk_cell BK3.out 1).trans rfl; have hcy3_2 : w10.cell? ⟨gb3, 2, none⟩ = some (.slice none 0 0) := (blk_cell BK3.out 2).trans rfl; have hfy3_0 := blk_frozen BK3.out 0; have hfy3_1 := blk_frozen BK3.out 1; have hfy3_2 := blk_frozen BK3.out 2) | ((with_reducible refine gate_callee (f := 27) rfl ?_); refine goesL_ (some 20) rfl rfl Try.func27 (by kernel_rfl) rfl #[.int .i64 (n : Int), .int .i64 0, .int .i64 (wrap64 ((cs.length : Int) - 1))] rfl (by (try simp only [List.map_toArray, List.map_cons, List.map_nil]); first | done | rfl) ?_; (with_reducible refine (impl_within.calls (n : Int) 0 (wrap64 ((cs.length : Int) - 1)) true _ AQ.out).mono ?_); rintro e w' ⟨rfl, ⟨nd, rfl⟩⟩; refine ⟨_, rfl, ?_⟩) | ((with_reducible refine gate_callee (f := 41) rfl ?_); refine goesL_ (some 37) rfl rfl Try.func41 (by kernel_rfl) rfl #[.agg #[.int .i64 a0, .slice A1 cs.length c1, .slice A2 ts.length c2]] rfl (by (try simp only [List.map_toArray, List.map_cons, List.map_nil]); first | done | rfl) ?_; (with_reducible refine (impl_cloneMem.calls 200 a0 _ _ cs _ _ ts a0 cs ts _ ?side1 ?side2 ?side3 ?side4 AC.out).mono ?_); (case side1 => (repeat (first | exact (Kd.C_below HR1.out HB.out) | (with_reducible refine Kd.C_alloc ?_ _) | (with_reducible refine Kd.C_drewN ?_ _) | (with_reducible refine Kd.C_drew ?_)))); (case side2 => exact HC1.out); (case side3 => (repeat (first | exact (Kd.C_below HR2.out HB.out) | (with_reducible refine Kd.C_alloc ?_ _) | (with_reducible refine Kd.C_drewN ?_ _) | (with_reducible refine Kd.C_drew ?_)))); (case side4 => exact HC2.out); rintro e w28 ⟨v207, v210, rfl, ho0, ho1, hb⟩; obtain ⟨D1, d1, rfl⟩ := Kd.S_slice ho0; obtain ⟨D2, d2, rfl⟩ := Kd.R_slice ho1; refine ⟨_, rfl, ?_⟩; have HS := Aside0.mk (Kd.S_lower ho0 (below_size (by repeat first | exact HB.out | apply below_alloc | apply pw_below_drewN | apply below_drew1))); have HR := Aside0.mk (Kd.R_lower ho1 (below_size (by repeat first | exact HB.out | apply below_alloc | apply pw_below_drewN | apply below_drew1))); replace BK2 := Aside0.mk (blk_below (g := gb2) (o := .cells #[.int .i64 a0, .slice A1 cs.length c1, .slice A2 ts.length c2] 25 (0, 0)) (by repeat first | exact BK2.out | apply blk_drewN | apply blk_drew | apply blk_alloc) hb); replace BK3 := Aside0.mk (blk_below (g := gb3) (o := .cells #[.int .i64 0, .slice none 0 0, .slice none 0 0] 25 (0, 0)) (by repeat first | exact BK3.out | apply blk_drewN | apply blk_drew | apply blk_alloc) hb); replace HB := Aside0.mk (below_step (by repeat first | exact HB.out | apply below_alloc | apply pw_below_drewN | apply below_drew1) hb); clear hb ho0 ho1; have hcy2_0 : w28.cell? ⟨gb2, 0, none⟩ = some (.int .i64 a0) := (blk_cell BK2.out 0).trans rfl; have hcy2_1 : w28.cell? ⟨gb2, 1, none⟩ = some (.slice A1 cs.length c1) := (blk_cell BK2.out 1).trans rfl; have hcy2_2 : w28.cell? ⟨gb2, 2, none⟩ = some (.slice A2 ts.length c2) := (blk_cell BK2.out 2).trans rfl; have hcy3_0 : w28.cell? ⟨gb3, 0, none⟩ = some (.int .i64 0) := (blk_cell BK3.out 0).trans rfl; have hcy3_1 : w28.cell? ⟨gb3, 1, none⟩ = some (.slice none 0 0) := (blk_cell BK3.out 1).trans rfl; have hcy3_2 : w28.cell? ⟨gb3, 2, none⟩ = some (.slice none 0 0) := (blk_cell BK3.out 2).trans rfl; have hfy3_0 := blk_frozen BK3.out 0; have hfy3_1 := blk_frozen BK3.out 1; have hfy3_2 := blk_frozen BK3.out 2) | ((with_reducible refine gate_dst (N := 8) rfl ?_); (try (refine gate_guard (by rfl) ?_; dsimp only)); refine box_event ?hg (N := 8) ?hd (cs := #[.int .i64 0, .slice none 0 0, .slice none 0 0]) (t := 25) ?hr ?_; (case hd => rfl); (case hg => rfl); (case hr => first | (go_simp; done) | (go_simp; rfl)); intro gb4 hg w64 hbox hb; have BK4 := Aside0.mk (hbox); have GE4 := Aside0.mk ((by rw [hg]; exact (below_size (by repeat first | exact HB.out | apply below_alloc | apply pw_below_drewN | apply below_drew1)) : w.heap.size ≤ gb4)); have NB2_4 := Aside0.mk ((by rw [hg]; exact Nat.ne_of_lt (blk_lt (g := gb2) (o := .cells #[.int .i64 a0, .slice A1 cs.length c1, .slice A2 ts.length c2] 25 (0, 0)) (by repeat first | exact BK2.out | apply blk_drewN | apply blk_drew | apply blk_alloc)) : gb2 ≠ gb4)); have NB4_2 := Aside0.mk (NB2_4.out.symm); have NB3_4 := Aside0.mk ((by rw [hg]; exact Nat.ne_of_lt (blk_lt (g := gb3) (o := .cells #[.int .i64 0, .slice none 0 0, .slice none 0 0] 25 (0, 0)) (by repeat first | exact BK3.out | apply blk_drewN | apply blk_drew | apply blk_alloc)) : gb3 ≠ gb4)); have NB4_3 := Aside0.mk (NB3_4.out.symm); replace BK2 := Aside0.mk (blk_below (g := gb2) (o := .cells #[.int .i64 a0, .slice A1 cs.length c1, .slice A2 ts.length c2] 25 (0, 0)) (by repeat first | exact BK2.out | apply blk_drewN | apply blk_drew | apply blk_alloc) hb); replace BK3 := Aside0.mk (blk_below (g := gb3) (o := .cells #[.int .i64 0, .slice none 0 0, .slice none 0 0] 25 (0, 0)) (by repeat first | exact BK3.out | apply blk_drewN | apply blk_drew | apply blk_alloc) hb); replace HS := Aside0.mk (Kd.S_below (by (with_reducible repeat (first | apply Kd.S_alloc | apply Kd.S_drewN | apply Kd.S_drew)); exact HS.out) hb); replace HR := Aside0.mk (Kd.R_below (by (with_reducible repeat (first | apply Kd.R_alloc | apply Kd.R_drewN | apply Kd.R_drew)); exact HR.out) hb); replace HB := Aside0.mk (below_step (by repeat first | exact HB.out | apply below_alloc | apply pw_below_drewN | apply below_drew1) hb); clear hb hbox hg; have hnb2_4 := NB2_4.out; have hnc4_2 := NB4_2.out; have hnb3_4 := NB3_4.out; have hnc4_3 := NB4_3.out; have hcz4_0 : w64.cell? ⟨gb4, 0, none⟩ = some (.int .i64 0) := (blk_cell BK4.out 0).trans rfl; have hcz4_1 : w64.cell? ⟨gb4, 1, none⟩ = some (.slice none 0 0) := (blk_cell BK4.out 1).trans rfl; have hcz4_2 : w64.cell? ⟨gb4, 2, none⟩ = some (.slice none 0 0) := (blk_cell BK4.out 2).trans rfl; have hfz4_0 := blk_frozen BK4.out 0; have hfz4_1 := blk_frozen BK4.out 1; have hfz4_2 := blk_frozen BK4.out 2; have hcy2_0 : w64.cell? ⟨gb2, 0, none⟩ = some (.int .i64 a0) := (blk_cell BK2.out 0).trans rfl; have hcy2_1 : w64.cell? ⟨gb2, 1, none⟩ = some (.slice A1 cs.length c1) := (blk_cell BK2.out 1).trans rfl; have hcy2_2 : w64.cell? ⟨gb2, 2, none⟩ = some (.slice A2 ts.length c2) := (blk_cell BK2.out 2).trans rfl; have hcy3_0 : w64.cell? ⟨gb3, 0, none⟩ = some (.int .i64 0) := (blk_cell BK3.out 0).trans rfl; have hcy3_1 : w64.cell? ⟨gb3, 1, none⟩ = some (.slice none 0 0) := (blk_cell BK3.out 1).trans rfl; have hcy3_2 : w64.cell? ⟨gb3, 2, none⟩ = some (.slice none 0 0) := (blk_cell BK3.out 2).trans rfl; have hfy3_0 := blk_frozen BK3.out 0; have hfy3_1 := blk_frozen BK3.out 1; have hfy3_2 := blk_frozen BK3.out 2) | ((with_reducible refine gate_callee (f := 44) rfl ?_); refine goesL_ (some 40) rfl rfl Try.func44 (by kernel_rfl) rfl #[.pointer (some ⟨gb4, 0, none⟩), .int .i64 (n : Int), .slice A3 xs.length c3] rfl (by (try simp only [List.map_toArray, List.map_cons, List.map_nil]); first | done | rfl) ?_; refine (memWrite_calls a0 cs ts n AN.out AT.out gb4 D1 d1 D2 d2 A3 c3 xs HX3.out w _ ?sB ?sg ?sbk ?sS HR3.out HC3.out ?sR).mono ?_; (case sB => exact (by repeat (first | (with_reducible first | exact HB.out | apply below_alloc | apply pw_below_drewN | apply below_drew1 | refine below_set ?_ GE2.out | refine below_set ?_ GE3.out | refine below_set ?_ GE4.out) | exact HB.out))); (case sg => exact GE4.out); (case sbk => exact (by (with_reducible repeat (first | refine blk_drewN ?_ _ | refine blk_drew ?_ | refine blk_alloc ?_ _)); refine blk_put (cs := #[.int .i64 a0, .slice D1 cs.length d1, .slice none 0 0]) ?_ 2 _ rfl; (with_reducible repeat (first | refine blk_drewN ?_ _ | refine blk_drew ?_ | refine blk_alloc ?_ _)); refine blk_put (cs := #[.int .i64 a0, .slice none 0 0, .slice none 0 0]) ?_ 1 _ rfl; (with_reducible repeat (first | refine blk_drewN ?_ _ | refine blk_drew ?_ | refine blk_alloc ?_ _)); refine blk_put (cs := #[.int .i64 0, .slice none 0 0, .slice none 0 0]) ?_ 0 _ rfl; (with_reducible repeat (first | refine blk_drewN ?_ _ | refine blk_drew ?_ | refine blk_alloc ?_ _)); exact BK4.out)); (case sS => exact (by (with_reducible repeat (first | apply Kd.S_alloc | apply Kd.S_drewN | apply Kd.S_drew)); exact Kd.S_mono (Kd.S_far (p := ⟨gb4, 2, none⟩) (Kd.S_far (p := ⟨gb4, 1, none⟩) (Kd.S_far (p := ⟨gb4, 0, none⟩) (Kd.S_types HS.out BK4.out (by decide)) (fun _ hk => hk.2) (.int .i64 a0)) (fun _ hk => hk.2) (.slice D1 cs.length d1)) (fun _ hk => hk.2) (.slice D2 ts.length d2)) (fun _ _ => trivial))); (case sR => exact (by (with_reducible repeat (first | apply Kd.R_alloc | apply Kd.R_drewN | apply Kd.R_drew)); exact Kd.R_mono (Kd.R_far (p := ⟨gb4, 2, none⟩) (Kd.R_far (p := ⟨gb4, 1, none⟩) (Kd.R_far (p := ⟨gb4, 0, none⟩) (Kd.R_types HR.out BK4.out (by decide)) (fun _ hk => hk.2) (.int .i64 a0)) (fun _ hk => hk.2) (.slice D1 cs.length d1)) (fun _ hk => hk.2) (.slice D2 ts.length d2)) (fun _ _ => trivial))); rintro e w30 ⟨E2, e2, rfl, hbk4, hS4, hR4, hB4, hK⟩; refine ⟨_, rfl, ?_⟩; have n2_ : Aside0 (w30.heap[gb2]? = some (.cells #[.int .i64 a0, .slice A1 cs.length c1, .slice A2 ts.length c2] 25 (0, 0))) := ⟨hK gb2 _ _ NB2_4.out (by decide) (by decide) (by (with_reducible repeat (first | refine blk_drewN ?_ _ | refine blk_drew ?_ | refine blk_alloc ?_ _)); refine blk_far ?_ NB2_4.out _; (with_reducible repeat (first | refine blk_drewN ?_ _ | refine blk_drew ?_ | refine blk_alloc ?_ _)); refine blk_far ?_ NB2_4.out _; (with_reducible repeat (first | refine blk_drewN ?_ _ | refine blk_drew ?_ | refine blk_alloc ?_ _)); refine blk_far ?_ NB2_4.out _; (with_reducible repeat (first | refine blk_drewN ?_ _ | refine blk_drew ?_ | refine blk_alloc ?_ _)); exact BK2.out)⟩; have n3_ : Aside0 (w30.heap[gb3]? = some (.cells #[.int .i64 0, .slice none 0 0, .slice none 0 0] 25 (0, 0))) := ⟨hK gb3 _ _ NB3_4.out (by decide) (by decide) (by (with_reducible repeat (first | refine blk_drewN ?_ _ | refine blk_drew ?_ | refine blk_alloc ?_ _)); refine blk_far ?_ NB3_4.out _; (with_reducible repeat (first | refine blk_drewN ?_ _ | refine blk_drew ?_ | refine blk_alloc ?_ _)); refine blk_far ?_ NB3_4.out _; (with_reducible repeat (first | refine blk_drewN ?_ _ | refine blk_drew ?_ | refine blk_alloc ?_ _)); refine blk_far ?_ NB3_4.out _; (with_reducible repeat (first | refine blk_drewN ?_ _ | refine blk_drew ?_ | refine blk_alloc ?_ _)); exact BK3.out)⟩; clear BK2 BK3; have BK2 := n2_; have BK3 := n3_; clear n2_ n3_; clear BK4 HS HR HB hK; have BK4 : Aside0 (w30.heap[gb4]? = some (.cells #[.int .i64 a0, .slice D1 cs.length d1, .slice E2 (ts.length + 1) e2] 25 (0, 0))) := ⟨hbk4⟩; have HS := Aside0.mk hS4; have HR := Aside0.mk hR4; have HB := Aside0.mk hB4; clear hbk4 hS4 hR4 hB4; have hcy3_0 : w30.cell? ⟨gb3, 0, none⟩ = some (.int .i64 0) := (blk_cell BK3.out 0).trans rfl; have hcy3_1 : w30.cell? ⟨gb3, 1, none⟩ = some (.slice none 0 0) := (blk_cell BK3.out 1).trans rfl; have hcy3_2 : w30.cell? ⟨gb3, 2, none⟩ = some (.slice none 0 0) := (blk_cell BK3.out 2).trans rfl; have hfy3_0 := blk_frozen BK3.out 0; have hfy3_1 := blk_frozen BK3.out 1; have hfy3_2 := blk_frozen BK3.out 2; have hcy4_0 : w30.cell? ⟨gb4, 0, none⟩ = some (.int .i64 a0) := (blk_cell BK4.out 0).trans rfl; have hcy4_1 : w30.cell? ⟨gb4, 1, none⟩ = some (.slice D1 cs.length d1) := (blk_cell BK4.out 1).trans rfl; have hcy4_2 : w30.cell? ⟨gb4, 2, none⟩ = some (.slice E2 (ts.length + 1) e2) := (blk_cell BK4.out 2).trans rfl; have hfy4_0 := blk_frozen BK4.out 0; have hfy4_1 := blk_frozen BK4.out 1; have hfy4_2 := blk_frozen BK4.out 2))
          refine bodyPost_ret (results_ct rfl _ _ gb3 25 #[.int .i64 a0, .slice D1 cs.length d1, .slice E2 (ts.length + 1) e2] (0, 0) _ rfl (by (with_reducible repeat (first | refine blk_drewN ?_ _ | refine blk_drew ?_ | refine blk_alloc ?_ _)); refine blk_put (cs := #[.int .i64 a0, .slice D1 cs.length d1, .slice none 0 0]) ?_ 2 _ rfl; (with_reducible repeat (first | refine blk_drewN ?_ _ | refine blk_drew ?_ | refine blk_alloc ?_ _)); refine blk_put (cs := #[.int .i64 a0, .slice none 0 0, .slice none 0 0]) ?_ 1 _ rfl; (with_reducible repeat (first | refine blk_drewN ?_ _ | refine blk_drew ?_ | refine blk_alloc ?_ _)); refine blk_put (cs := #[.int .i64 0, .slice none 0 0, .slice none 0 0]) ?_ 0 _ rfl; (with_reducible repeat (first | refine blk_drewN ?_ _ | refine blk_drew ?_ | refine blk_alloc ?_ _)); exact BK3.out) Try.underlying25 rfl (by kernel_rfl)) rfl ?_
          exact ⟨_, _, by first | rfl | (simp; done) | (simp [*]; done), by (with_reducible repeat (first | apply Kd.S_alloc | apply Kd.S_drewN | apply Kd.S_drew)); exact Kd.S_mono (Kd.S_far (p := ⟨gb3, 2, none⟩) (Kd.S_far (p := ⟨gb3, 1, none⟩) (Kd.S_far (p := ⟨gb3, 0, none⟩) (Kd.S_types HS.out BK3.out (by decide)) (fun _ hk => hk.2) (.int .i64 a0)) (fun _ hk => hk.2) (.slice D1 cs.length d1)) (fun _ hk => hk.2) (.slice E2 (ts.length + 1) e2)) (fun _ _ => trivial), by (with_reducible repeat (first | apply Kd.R_alloc | apply Kd.R_drewN | apply Kd.R_drew)); exact Kd.R_mono (Kd.R_far (p := ⟨gb3, 2, none⟩) (Kd.R_far (p := ⟨gb3, 1, none⟩) (Kd.R_far (p := ⟨gb3, 0, none⟩) (Kd.R_types HR.out BK3.out (by decide)) (fun _ hk => hk.2) (.int .i64 a0)) (fun _ hk => hk.2) (.slice D1 cs.length d1)) (fun _ hk => hk.2) (.slice E2 (ts.length + 1) e2)) (fun _ _ => trivial), by repeat (first | (with_reducible first | exact HB.out | apply below_alloc | apply pw_below_drewN | apply below_drew1 | refine below_set ?_ GE2.out | refine below_set ?_ GE3.out | refine below_set ?_ GE4.out) | exact HB.out)⟩
      · have cs0b1 : ((xs.length : Int) != a0) = true := bne_iff_ne.mpr hs
        have cs0b0 : ((xs.length : Int) == a0) = false := beq_eq_false_iff_ne.mpr hs
        clear hb hw64
        have hF : memWriteF a0 cs ts a1 xs = (0, [], [], 3) := by unfold memWriteF; rw [if_pos hm, if_pos hq, if_neg hs]
        rw [hF]
        clear hF hs
        go_enter Try.func26, Try.ntmps26
        go_wp2_with (first | ((with_reducible refine gate_dst (N := 3) rfl ?_); (try (refine gate_guard (by rfl) ?_; dsimp only)); refine box_event ?hg (N := 3) ?hd (cs := #[.int .i64 a0, .slice A1 cs.length c1, .slice A2 ts.length c2]) (t := 25) ?hr ?_; (case hd => rfl); (case hg => rfl); (case hr => first | (go_simp; done) | (go_simp; rfl)); intro gb2 hg w62 hbox hb; have BK2 := Aside0.mk (hbox); have GE2 := Aside0.mk ((by rw [hg]; exact (below_size (by repeat first | exact HB.out | apply below_alloc | apply pw_below_drewN | apply below_drew1)) : w.heap.size ≤ gb2)); replace HB := Aside0.mk (below_step (by repeat first | exact HB.out | apply below_alloc | apply pw_below_drewN | apply below_drew1) hb); clear hb hbox hg; have hcz2_0 : w62.cell? ⟨gb2, 0, none⟩ = some (.int .i64 a0) := (blk_cell BK2.out 0).trans rfl; have hcz2_1 : w62.cell? ⟨gb2, 1, none⟩ = some (.slice A1 cs.length c1) := (blk_cell BK2.out 1).trans rfl; have hcz2_2 : w62.cell? ⟨gb2, 2, none⟩ = some (.slice A2 ts.length c2) := (blk_cell BK2.out 2).trans rfl) | ((with_reducible refine gate_dst (N := 6) rfl ?_); (try (refine gate_guard (by rfl) ?_; dsimp only)); refine box_event ?hg (N := 6) ?hd (cs := #[.int .i64 0, .slice none 0 0, .slice none 0 0]) (t := 25) ?hr ?_; (case hd => rfl); (case hg => rfl); (case hr => first | (go_simp; done) | (go_simp; rfl)); intro gb3 hg w63 hbox hb; have BK3 := Aside0.mk (hbox); have GE3 := Aside0.mk ((by rw [hg]; exact (below_size (by repeat first | exact HB.out | apply below_alloc | apply pw_below_drewN | apply below_drew1)) : w.heap.size ≤ gb3)); have NB2_3 := Aside0.mk ((by rw [hg]; exact Nat.ne_of_lt (blk_lt (g := gb2) (o := .cells #[.int .i64 a0, .slice A1 cs.length c1, .slice A2 ts.length c2] 25 (0, 0)) (by repeat first | exact BK2.out | apply blk_drewN | apply blk_drew | apply blk_alloc)) : gb2 ≠ gb3)); have NB3_2 := Aside0.mk (NB2_3.out.symm); replace BK2 := Aside0.mk (blk_below (g := gb2) (o := .cells #[.int .i64 a0, .slice A1 cs.length c1, .slice A2 ts.length c2] 25 (0, 0)) (by repeat first | exact BK2.out | apply blk_drewN | apply blk_drew | apply blk_alloc) hb); replace HB := Aside0.mk (below_step (by repeat first | exact HB.out | apply below_alloc | apply pw_below_drewN | apply below_drew1) hb); clear hb hbox hg; have hnb2_3 := NB2_3.out; have hnc3_2 := NB3_2.out; have hcz3_0 : w63.cell? ⟨gb3, 0, none⟩ = some (.int .i64 0) := (blk_cell BK3.out 0).trans rfl; have hcz3_1 : w63.cell? ⟨gb3, 1, none⟩ = some (.slice none 0 0) := (blk_cell BK3.out 1).trans rfl; have hcz3_2 : w63.cell? ⟨gb3, 2, none⟩ = some (.slice none 0 0) := (blk_cell BK3.out 2).trans rfl; have hfz3_0 := blk_frozen BK3.out 0; have hfz3_1 := blk_frozen BK3.out 1; have hfz3_2 := blk_frozen BK3.out 2; have hcy2_0 : w63.cell? ⟨gb2, 0, none⟩ = some (.int .i64 a0) := (blk_cell BK2.out 0).trans rfl; have hcy2_1 : w63.cell? ⟨gb2, 1, none⟩ = some (.slice A1 cs.length c1) := (blk_cell BK2.out 1).trans rfl; have hcy2_2 : w63.cell? ⟨gb2, 2, none⟩ = some (.slice A2 ts.length c2) := (blk_cell BK2.out 2).trans rfl) | ((with_reducible refine gate_callee (f := 39) rfl ?_); refine goesL_ (some 11) rfl rfl Try.func39 (by kernel_rfl) rfl #[.agg #[.int .i64 a0, .slice A1 cs.length c1, .slice A2 ts.length c2]] rfl (by (try simp only [List.map_toArray, List.map_cons, List.map_nil]); first | done | rfl) ?_; (with_reducible refine (impl_isMem.calls 6201 a0 _ _ cs _ _ ts true _ ?side1 ?side2 ?side3 ?side4 AM.out).mono ?_); (case side1 => (repeat (first | exact (Kd.C_below HR1.out HB.out) | (with_reducible refine Kd.C_alloc ?_ _) | (with_reducible refine Kd.C_drewN ?_ _) | (with_reducible refine Kd.C_drew ?_)))); (case side2 => exact HC1.out); (case side3 => (repeat (first | exact (Kd.C_below HR2.out HB.out) | (with_reducible refine Kd.C_alloc ?_ _) | (with_reducible refine Kd.C_drewN ?_ _) | (with_reducible refine Kd.C_drew ?_)))); (case side4 => exact HC2.out); rintro e w10 ⟨rfl, hb⟩; refine ⟨_, rfl, ?_⟩; replace BK2 := Aside0.mk (blk_below (g := gb2) (o := .cells #[.int .i64 a0, .slice A1 cs.length c1, .slice A2 ts.length c2] 25 (0, 0)) (by repeat first | exact BK2.out | apply blk_drewN | apply blk_drew | apply blk_alloc) hb); replace BK3 := Aside0.mk (blk_below (g := gb3) (o := .cells #[.int .i64 0, .slice none 0 0, .slice none 0 0] 25 (0, 0)) (by repeat first | exact BK3.out | apply blk_drewN | apply blk_drew | apply blk_alloc) hb); replace HB := Aside0.mk (below_step (by repeat first | exact HB.out | apply below_alloc | apply pw_below_drewN | apply below_drew1) hb); clear hb; have hcy2_0 : w10.cell? ⟨gb2, 0, none⟩ = some (.int .i64 a0) := (blk_cell BK2.out 0).trans rfl; have hcy2_1 : w10.cell? ⟨gb2, 1, none⟩ = some (.slice A1 cs.length c1) := (blk_cell BK2.out 1).trans rfl; have hcy2_2 : w10.cell? ⟨gb2, 2, none⟩ = some (.slice A2 ts.length c2) := (blk_cell BK2.out 2).trans rfl; have hcy3_0 : w10.cell? ⟨gb3, 0, none⟩ = some (.int .i64 0) := (blk_cell BK3.out 0).trans rfl; have hcy3_1 : w10.cell? ⟨gb3, 1, none⟩ = some (.slice none 0 0) := (blk_cell BK3.out 1).trans rfl; have hcy3_2 : w10.cell? ⟨gb3, 2, none⟩ = some (.slice none 0 0) := (blk_cell BK3.out 2).trans rfl; have hfy3_0 := blk_frozen BK3.out 0; have hfy3_1 := blk_frozen BK3.out 1; have hfy3_2 := blk_frozen BK3.out 2) | ((with_reducible refine gate_callee (f := 27) rfl ?_); refine goesL_ (some 20) rfl rfl Try.func27 (by kernel_rfl) rfl #[.int .i64 a1, .int .i64 0, .int .i64 (wrap64 ((cs.length : Int) - 1))] rfl (by (try simp only [List.map_toArray, List.map_cons, List.map_nil]); first | done | rfl) ?_; (with_reducible refine (impl_within.calls a1 0 (wrap64 ((cs.length : Int) - 1)) true _ AQ.out).mono ?_); rintro e w' ⟨rfl, ⟨nd, rfl⟩⟩; refine ⟨_, rfl, ?_⟩))
        refine bodyPost_ret (results_ct rfl _ _ gb3 25 #[.int .i64 0, .slice none 0 0, .slice none 0 0] (0, 0) _ rfl (by (with_reducible repeat (first | refine blk_drewN ?_ _ | refine blk_drew ?_ | refine blk_alloc ?_ _)); refine blk_put (cs := #[.int .i64 0, .slice none 0 0, .slice none 0 0]) ?_ 2 _ rfl; (with_reducible repeat (first | refine blk_drewN ?_ _ | refine blk_drew ?_ | refine blk_alloc ?_ _)); refine blk_put (cs := #[.int .i64 0, .slice none 0 0, .slice none 0 0]) ?_ 1 _ rfl; (with_reducible repeat (first | refine blk_drewN ?_ _ | refine blk_drew ?_ | refine blk_alloc ?_ _)); refine blk_put (cs := #[.int .i64 0, .slice none 0 0, .slice none 0 0]) ?_ 0 _ rfl; (with_reducible repeat (first | refine blk_drewN ?_ _ | refine blk_drew ?_ | refine blk_alloc ?_ _)); exact BK3.out) Try.underlying25 rfl (by kernel_rfl)) rfl ?_
        exact ⟨_, _, by first | rfl | (simp; done) | (simp [*]; done), by first | exact Kd.S_nil _ _ _ _ _ | exact Kd.R_nil _ _ _ _ _, by first | exact Kd.S_nil _ _ _ _ _ | exact Kd.R_nil _ _ _ _ _, by repeat (first | (with_reducible first | exact HB.out | apply below_alloc | apply pw_below_drewN | apply below_drew1 | refine below_set ?_ GE2.out | refine below_set ?_ GE3.out | refine below_set ?_ GE4.out) | exact HB.out)⟩
    · have AQ : Aside0 (impl_within.f a1 0 (wrap64 ((cs.length : Int) - 1)) = some false) := ⟨by rw [within_f, hw64, decide_eq_false (by omega)]⟩
      clear hb hw64
      have hF : memWriteF a0 cs ts a1 xs = (0, [], [], 2) := by unfold memWriteF; rw [if_pos hm, if_neg hq]
      rw [hF]
      clear hF
      go_enter Try.func26, Try.ntmps26
      go_wp2_with (first | ((with_reducible refine gate_dst (N := 3) rfl ?_); (try (refine gate_guard (by rfl) ?_; dsimp only)); refine box_event ?hg (N := 3) ?hd (cs := #[.int .i64 a0, .slice A1 cs.length c1, .slice A2 ts.length c2]) (t := 25) ?hr ?_; (case hd => rfl); (case hg => rfl); (case hr => first | (go_simp; done) | (go_simp; rfl)); intro gb2 hg w62 hbox hb; have BK2 := Aside0.mk (hbox); have GE2 := Aside0.mk ((by rw [hg]; exact (below_size (by repeat first | exact HB.out | apply below_alloc | apply pw_below_drewN | apply below_drew1)) : w.heap.size ≤ gb2)); replace HB := Aside0.mk (below_step (by repeat first | exact HB.out | apply below_alloc | apply pw_below_drewN | apply below_drew1) hb); clear hb hbox hg; have hcz2_0 : w62.cell? ⟨gb2, 0, none⟩ = some (.int .i64 a0) := (blk_cell BK2.out 0).trans rfl; have hcz2_1 : w62.cell? ⟨gb2, 1, none⟩ = some (.slice A1 cs.length c1) := (blk_cell BK2.out 1).trans rfl; have hcz2_2 : w62.cell? ⟨gb2, 2, none⟩ = some (.slice A2 ts.length c2) := (blk_cell BK2.out 2).trans rfl) | ((with_reducible refine gate_dst (N := 6) rfl ?_); (try (refine gate_guard (by rfl) ?_; dsimp only)); refine box_event ?hg (N := 6) ?hd (cs := #[.int .i64 0, .slice none 0 0, .slice none 0 0]) (t := 25) ?hr ?_; (case hd => rfl); (case hg => rfl); (case hr => first | (go_simp; done) | (go_simp; rfl)); intro gb3 hg w63 hbox hb; have BK3 := Aside0.mk (hbox); have GE3 := Aside0.mk ((by rw [hg]; exact (below_size (by repeat first | exact HB.out | apply below_alloc | apply pw_below_drewN | apply below_drew1)) : w.heap.size ≤ gb3)); have NB2_3 := Aside0.mk ((by rw [hg]; exact Nat.ne_of_lt (blk_lt (g := gb2) (o := .cells #[.int .i64 a0, .slice A1 cs.length c1, .slice A2 ts.length c2] 25 (0, 0)) (by repeat first | exact BK2.out | apply blk_drewN | apply blk_drew | apply blk_alloc)) : gb2 ≠ gb3)); have NB3_2 := Aside0.mk (NB2_3.out.symm); replace BK2 := Aside0.mk (blk_below (g := gb2) (o := .cells #[.int .i64 a0, .slice A1 cs.length c1, .slice A2 ts.length c2] 25 (0, 0)) (by repeat first | exact BK2.out | apply blk_drewN | apply blk_drew | apply blk_alloc) hb); replace HB := Aside0.mk (below_step (by repeat first | exact HB.out | apply below_alloc | apply pw_below_drewN | apply below_drew1) hb); clear hb hbox hg; have hnb2_3 := NB2_3.out; have hnc3_2 := NB3_2.out; have hcz3_0 : w63.cell? ⟨gb3, 0, none⟩ = some (.int .i64 0) := (blk_cell BK3.out 0).trans rfl; have hcz3_1 : w63.cell? ⟨gb3, 1, none⟩ = some (.slice none 0 0) := (blk_cell BK3.out 1).trans rfl; have hcz3_2 : w63.cell? ⟨gb3, 2, none⟩ = some (.slice none 0 0) := (blk_cell BK3.out 2).trans rfl; have hfz3_0 := blk_frozen BK3.out 0; have hfz3_1 := blk_frozen BK3.out 1; have hfz3_2 := blk_frozen BK3.out 2; have hcy2_0 : w63.cell? ⟨gb2, 0, none⟩ = some (.int .i64 a0) := (blk_cell BK2.out 0).trans rfl; have hcy2_1 : w63.cell? ⟨gb2, 1, none⟩ = some (.slice A1 cs.length c1) := (blk_cell BK2.out 1).trans rfl; have hcy2_2 : w63.cell? ⟨gb2, 2, none⟩ = some (.slice A2 ts.length c2) := (blk_cell BK2.out 2).trans rfl) | ((with_reducible refine gate_callee (f := 39) rfl ?_); refine goesL_ (some 11) rfl rfl Try.func39 (by kernel_rfl) rfl #[.agg #[.int .i64 a0, .slice A1 cs.length c1, .slice A2 ts.length c2]] rfl (by (try simp only [List.map_toArray, List.map_cons, List.map_nil]); first | done | rfl) ?_; (with_reducible refine (impl_isMem.calls 6201 a0 _ _ cs _ _ ts true _ ?side1 ?side2 ?side3 ?side4 AM.out).mono ?_); (case side1 => (repeat (first | exact (Kd.C_below HR1.out HB.out) | (with_reducible refine Kd.C_alloc ?_ _) | (with_reducible refine Kd.C_drewN ?_ _) | (with_reducible refine Kd.C_drew ?_)))); (case side2 => exact HC1.out); (case side3 => (repeat (first | exact (Kd.C_below HR2.out HB.out) | (with_reducible refine Kd.C_alloc ?_ _) | (with_reducible refine Kd.C_drewN ?_ _) | (with_reducible refine Kd.C_drew ?_)))); (case side4 => exact HC2.out); rintro e w10 ⟨rfl, hb⟩; refine ⟨_, rfl, ?_⟩; replace BK2 := Aside0.mk (blk_below (g := gb2) (o := .cells #[.int .i64 a0, .slice A1 cs.length c1, .slice A2 ts.length c2] 25 (0, 0)) (by repeat first | exact BK2.out | apply blk_drewN | apply blk_drew | apply blk_alloc) hb); replace BK3 := Aside0.mk (blk_below (g := gb3) (o := .cells #[.int .i64 0, .slice none 0 0, .slice none 0 0] 25 (0, 0)) (by repeat first | exact BK3.out | apply blk_drewN | apply blk_drew | apply blk_alloc) hb); replace HB := Aside0.mk (below_step (by repeat first | exact HB.out | apply below_alloc | apply pw_below_drewN | apply below_drew1) hb); clear hb; have hcy2_0 : w10.cell? ⟨gb2, 0, none⟩ = some (.int .i64 a0) := (blk_cell BK2.out 0).trans rfl; have hcy2_1 : w10.cell? ⟨gb2, 1, none⟩ = some (.slice A1 cs.length c1) := (blk_cell BK2.out 1).trans rfl; have hcy2_2 : w10.cell? ⟨gb2, 2, none⟩ = some (.slice A2 ts.length c2) := (blk_cell BK2.out 2).trans rfl; have hcy3_0 : w10.cell? ⟨gb3, 0, none⟩ = some (.int .i64 0) := (blk_cell BK3.out 0).trans rfl; have hcy3_1 : w10.cell? ⟨gb3, 1, none⟩ = some (.slice none 0 0) := (blk_cell BK3.out 1).trans rfl; have hcy3_2 : w10.cell? ⟨gb3, 2, none⟩ = some (.slice none 0 0) := (blk_cell BK3.out 2).trans rfl; have hfy3_0 := blk_frozen BK3.out 0; have hfy3_1 := blk_frozen BK3.out 1; have hfy3_2 := blk_frozen BK3.out 2) | ((with_reducible refine gate_callee (f := 27) rfl ?_); refine goesL_ (some 20) rfl rfl Try.func27 (by kernel_rfl) rfl #[.int .i64 a1, .int .i64 0, .int .i64 (wrap64 ((cs.length : Int) - 1))] rfl (by (try simp only [List.map_toArray, List.map_cons, List.map_nil]); first | done | rfl) ?_; (with_reducible refine (impl_within.calls a1 0 (wrap64 ((cs.length : Int) - 1)) false _ AQ.out).mono ?_); rintro e w' ⟨rfl, ⟨nd, rfl⟩⟩; refine ⟨_, rfl, ?_⟩))
      refine bodyPost_ret (results_ct rfl _ _ gb3 25 #[.int .i64 0, .slice none 0 0, .slice none 0 0] (0, 0) _ rfl (by (with_reducible repeat (first | refine blk_drewN ?_ _ | refine blk_drew ?_ | refine blk_alloc ?_ _)); refine blk_put (cs := #[.int .i64 0, .slice none 0 0, .slice none 0 0]) ?_ 2 _ rfl; (with_reducible repeat (first | refine blk_drewN ?_ _ | refine blk_drew ?_ | refine blk_alloc ?_ _)); refine blk_put (cs := #[.int .i64 0, .slice none 0 0, .slice none 0 0]) ?_ 1 _ rfl; (with_reducible repeat (first | refine blk_drewN ?_ _ | refine blk_drew ?_ | refine blk_alloc ?_ _)); refine blk_put (cs := #[.int .i64 0, .slice none 0 0, .slice none 0 0]) ?_ 0 _ rfl; (with_reducible repeat (first | refine blk_drewN ?_ _ | refine blk_drew ?_ | refine blk_alloc ?_ _)); exact BK3.out) Try.underlying25 rfl (by kernel_rfl)) rfl ?_
      exact ⟨_, _, by first | rfl | (simp; done) | (simp [*]; done), by first | exact Kd.S_nil _ _ _ _ _ | exact Kd.R_nil _ _ _ _ _, by first | exact Kd.S_nil _ _ _ _ _ | exact Kd.R_nil _ _ _ _ _, by repeat (first | (with_reducible first | exact HB.out | apply below_alloc | apply pw_below_drewN | apply below_drew1 | refine below_set ?_ GE2.out | refine below_set ?_ GE3.out | refine below_set ?_ GE4.out) | exact HB.out)⟩
  · have AM := Aside0.mk (impl_isMem_f a0 cs ts (k := 6201) (by omega))
    rw [Bool.eq_false_iff.mpr hm] at AM
    have hF : memWriteF a0 cs ts a1 xs = (0, [], [], 1) := by unfold memWriteF; rw [if_neg hm]
    rw [hF]
    clear hF
    go_enter Try.func26, Try.ntmps26
    go_wp2_with (first | ((with_reducible refine gate_dst (N := 3) rfl ?_); (try (refine gate_guard (by rfl) ?_; dsimp only)); refine box_event ?hg (N := 3) ?hd (cs := #[.int .i64 a0, .slice A1 cs.length c1, .slice A2 ts.length c2]) (t := 25) ?hr ?_; (case hd => rfl); (case hg => rfl); (case hr => first | (go_simp; done) | (go_simp; rfl)); intro gb2 hg w62 hbox hb; have BK2 := Aside0.mk (hbox); have GE2 := Aside0.mk ((by rw [hg]; exact (below_size (by repeat first | exact HB.out | apply below_alloc | apply pw_below_drewN | apply below_drew1)) : w.heap.size ≤ gb2)); replace HB := Aside0.mk (below_step (by repeat first | exact HB.out | apply below_alloc | apply pw_below_drewN | apply below_drew1) hb); clear hb hbox hg; have hcz2_0 : w62.cell? ⟨gb2, 0, none⟩ = some (.int .i64 a0) := (blk_cell BK2.out 0).trans rfl; have hcz2_1 : w62.cell? ⟨gb2, 1, none⟩ = some (.slice A1 cs.length c1) := (blk_cell BK2.out 1).trans rfl; have hcz2_2 : w62.cell? ⟨gb2, 2, none⟩ = some (.slice A2 ts.length c2) := (blk_cell BK2.out 2).trans rfl) | ((with_reducible refine gate_dst (N := 6) rfl ?_); (try (refine gate_guard (by rfl) ?_; dsimp only)); refine box_event ?hg (N := 6) ?hd (cs := #[.int .i64 0, .slice none 0 0, .slice none 0 0]) (t := 25) ?hr ?_; (case hd => rfl); (case hg => rfl); (case hr => first | (go_simp; done) | (go_simp; rfl)); intro gb3 hg w63 hbox hb; have BK3 := Aside0.mk (hbox); have GE3 := Aside0.mk ((by rw [hg]; exact (below_size (by repeat first | exact HB.out | apply below_alloc | apply pw_below_drewN | apply below_drew1)) : w.heap.size ≤ gb3)); have NB2_3 := Aside0.mk ((by rw [hg]; exact Nat.ne_of_lt (blk_lt (g := gb2) (o := .cells #[.int .i64 a0, .slice A1 cs.length c1, .slice A2 ts.length c2] 25 (0, 0)) (by repeat first | exact BK2.out | apply blk_drewN | apply blk_drew | apply blk_alloc)) : gb2 ≠ gb3)); have NB3_2 := Aside0.mk (NB2_3.out.symm); replace BK2 := Aside0.mk (blk_below (g := gb2) (o := .cells #[.int .i64 a0, .slice A1 cs.length c1, .slice A2 ts.length c2] 25 (0, 0)) (by repeat first | exact BK2.out | apply blk_drewN | apply blk_drew | apply blk_alloc) hb); replace HB := Aside0.mk (below_step (by repeat first | exact HB.out | apply below_alloc | apply pw_below_drewN | apply below_drew1) hb); clear hb hbox hg; have hnb2_3 := NB2_3.out; have hnc3_2 := NB3_2.out; have hcz3_0 : w63.cell? ⟨gb3, 0, none⟩ = some (.int .i64 0) := (blk_cell BK3.out 0).trans rfl; have hcz3_1 : w63.cell? ⟨gb3, 1, none⟩ = some (.slice none 0 0) := (blk_cell BK3.out 1).trans rfl; have hcz3_2 : w63.cell? ⟨gb3, 2, none⟩ = some (.slice none 0 0) := (blk_cell BK3.out 2).trans rfl; have hfz3_0 := blk_frozen BK3.out 0; have hfz3_1 := blk_frozen BK3.out 1; have hfz3_2 := blk_frozen BK3.out 2; have hcy2_0 : w63.cell? ⟨gb2, 0, none⟩ = some (.int .i64 a0) := (blk_cell BK2.out 0).trans rfl; have hcy2_1 : w63.cell? ⟨gb2, 1, none⟩ = some (.slice A1 cs.length c1) := (blk_cell BK2.out 1).trans rfl; have hcy2_2 : w63.cell? ⟨gb2, 2, none⟩ = some (.slice A2 ts.length c2) := (blk_cell BK2.out 2).trans rfl) | ((with_reducible refine gate_callee (f := 39) rfl ?_); refine goesL_ (some 11) rfl rfl Try.func39 (by kernel_rfl) rfl #[.agg #[.int .i64 a0, .slice A1 cs.length c1, .slice A2 ts.length c2]] rfl (by (try simp only [List.map_toArray, List.map_cons, List.map_nil]); first | done | rfl) ?_; (with_reducible refine (impl_isMem.calls 6201 a0 _ _ cs _ _ ts false _ ?side1 ?side2 ?side3 ?side4 AM.out).mono ?_); (case side1 => (repeat (first | exact (Kd.C_below HR1.out HB.out) | (with_reducible refine Kd.C_alloc ?_ _) | (with_reducible refine Kd.C_drewN ?_ _) | (with_reducible refine Kd.C_drew ?_)))); (case side2 => exact HC1.out); (case side3 => (repeat (first | exact (Kd.C_below HR2.out HB.out) | (with_reducible refine Kd.C_alloc ?_ _) | (with_reducible refine Kd.C_drewN ?_ _) | (with_reducible refine Kd.C_drew ?_)))); (case side4 => exact HC2.out); rintro e w10 ⟨rfl, hb⟩; refine ⟨_, rfl, ?_⟩; replace BK2 := Aside0.mk (blk_below (g := gb2) (o := .cells #[.int .i64 a0, .slice A1 cs.length c1, .slice A2 ts.length c2] 25 (0, 0)) (by repeat first | exact BK2.out | apply blk_drewN | apply blk_drew | apply blk_alloc) hb); replace BK3 := Aside0.mk (blk_below (g := gb3) (o := .cells #[.int .i64 0, .slice none 0 0, .slice none 0 0] 25 (0, 0)) (by repeat first | exact BK3.out | apply blk_drewN | apply blk_drew | apply blk_alloc) hb); replace HB := Aside0.mk (below_step (by repeat first | exact HB.out | apply below_alloc | apply pw_below_drewN | apply below_drew1) hb); clear hb; have hcy2_0 : w10.cell? ⟨gb2, 0, none⟩ = some (.int .i64 a0) := (blk_cell BK2.out 0).trans rfl; have hcy2_1 : w10.cell? ⟨gb2, 1, none⟩ = some (.slice A1 cs.length c1) := (blk_cell BK2.out 1).trans rfl; have hcy2_2 : w10.cell? ⟨gb2, 2, none⟩ = some (.slice A2 ts.length c2) := (blk_cell BK2.out 2).trans rfl; have hcy3_0 : w10.cell? ⟨gb3, 0, none⟩ = some (.int .i64 0) := (blk_cell BK3.out 0).trans rfl; have hcy3_1 : w10.cell? ⟨gb3, 1, none⟩ = some (.slice none 0 0) := (blk_cell BK3.out 1).trans rfl; have hcy3_2 : w10.cell? ⟨gb3, 2, none⟩ = some (.slice none 0 0) := (blk_cell BK3.out 2).trans rfl; have hfy3_0 := blk_frozen BK3.out 0; have hfy3_1 := blk_frozen BK3.out 1; have hfy3_2 := blk_frozen BK3.out 2))
    refine bodyPost_ret (results_ct rfl _ _ gb3 25 #[.int .i64 0, .slice none 0 0, .slice none 0 0] (0, 0) _ rfl (by (with_reducible repeat (first | refine blk_drewN ?_ _ | refine blk_drew ?_ | refine blk_alloc ?_ _)); refine blk_put (cs := #[.int .i64 0, .slice none 0 0, .slice none 0 0]) ?_ 2 _ rfl; (with_reducible repeat (first | refine blk_drewN ?_ _ | refine blk_drew ?_ | refine blk_alloc ?_ _)); refine blk_put (cs := #[.int .i64 0, .slice none 0 0, .slice none 0 0]) ?_ 1 _ rfl; (with_reducible repeat (first | refine blk_drewN ?_ _ | refine blk_drew ?_ | refine blk_alloc ?_ _)); refine blk_put (cs := #[.int .i64 0, .slice none 0 0, .slice none 0 0]) ?_ 0 _ rfl; (with_reducible repeat (first | refine blk_drewN ?_ _ | refine blk_drew ?_ | refine blk_alloc ?_ _)); exact BK3.out) Try.underlying25 rfl (by kernel_rfl)) rfl ?_
    exact ⟨_, _, by first | rfl | (simp; done) | (simp [*]; done), by first | exact Kd.S_nil _ _ _ _ _ | exact Kd.R_nil _ _ _ _ _, by first | exact Kd.S_nil _ _ _ _ _ | exact Kd.R_nil _ _ _ _ _, by repeat (first | (with_reducible first | exact HB.out | apply below_alloc | apply pw_below_drewN | apply below_drew1 | refine below_set ?_ GE2.out | refine below_set ?_ GE3.out | refine below_set ?_ GE4.out) | exact HB.out)⟩

theorem aS {α : Type} {d : Kd α} {e base : Nat} {ok : Nat → Prop} {W W' : World} {v : Value} {xs : List α} (h : Aside0 (Kd.S d e W base ok v xs)) (hb : Below W.heap.size W W') : Aside0 (Kd.S d e W' base ok v xs) := ⟨Kd.S_below h.out hb⟩
theorem aN {α : Type} {d : Kd α} {e base : Nat} {ok : Nat → Prop} {W W' : World} {v : Value} {xs : List α} (h : Aside0 (Kd.N d e W base ok v xs)) (hb : Below W.heap.size W W') : Aside0 (Kd.N d e W' base ok v xs) := ⟨Kd.N_below h.out hb⟩
theorem aR {α : Type} {d : Kd α} {e base : Nat} {ok : Nat → Prop} {W W' : World} {v : Value} {xs : List α} (h : Aside0 (Kd.R d e W base ok v xs)) (hb : Below W.heap.size W W') : Aside0 (Kd.R d e W' base ok v xs) := ⟨Kd.R_below h.out hb⟩
theorem aB {W W' : World} {g : Nat} {o : Obj} (h : Aside0 (W.heap[g]? = some o)) (hb : Below W.heap.size W W') : Aside0 (W'.heap[g]? = some o) := ⟨(Below.block hb _ (blk_lt h.out)).trans h.out⟩
theorem aZ {W W' : World} {g : Nat} (h : Aside0 (g < W.heap.size)) (hb : Below W.heap.size W W') : Aside0 (g < W'.heap.size) := ⟨Nat.lt_of_lt_of_le h.out (Below.size hb)⟩
theorem aY {W W' : World} {g : Nat} (h : Aside0 (g ≤ W.heap.size)) (hb : Below W.heap.size W W') : Aside0 (g ≤ W'.heap.size) := ⟨Nat.le_trans h.out (Below.size hb)⟩
theorem aH {w W W' : World} (h : Aside0 (Below w.heap.size w W)) (hb : Below W.heap.size W W') : Aside0 (Below w.heap.size w W') := ⟨below_step h.out hb⟩
theorem mem_newN {w W w1 wA W' : World} {v1 v2 : Value} {a : Int} {cs : List S50} {ts : List S59} {gb : Nat} (hB : Below w.heap.size w W) (hb : Below W.heap.size W w1) (hS : Kd.N k50 50 w1 W.heap.size (fun k => W.heap.size ≤ k) v1 cs) (hR : Kd.R k59 59 w1 W.heap.size (fun k => W.heap.size ≤ k) v2 ts)
    (hg : gb = w1.heap.size) (hbox : wA.heap[gb]? = some (.cells #[.int .i64 0, .slice none 0 0, .slice none 0 0] 25 (0, 0))) (hbA : Below w1.heap.size w1 wA)
    (hW : W' = ((wA.setCell ⟨gb, 0, none⟩ (.int .i64 a)).setCell ⟨gb, 1, none⟩ v1).setCell ⟨gb, 2, none⟩ v2) :
    Below w.heap.size w W' ∧ Below W.heap.size W W' ∧ Kd.N k50 50 W' w.heap.size (fun k => W.heap.size ≤ k ∧ k < gb) v1 cs ∧ Kd.R k59 59 W' w.heap.size (fun k => W.heap.size ≤ k ∧ k < gb) v2 ts ∧ W'.heap[gb]? = some (.cells #[.int .i64 a, v1, v2] 25 (0, 0)) ∧ W.heap.size ≤ gb ∧ gb < W'.heap.size := by
  subst hW
  have hge : W.heap.size ≤ gb := by rw [hg]; exact hb.size
  have hgw : w.heap.size ≤ gb := Nat.le_trans hB.size hge
  have b1 := blk_put hbox 0 (.int .i64 a) rfl
  have b2 := blk_put b1 1 v1 rfl
  have b3 := blk_put b2 2 v2 rfl
  have hWA : Below W.heap.size W wA := below_step hb hbA
  have hwA : Below w.heap.size w wA := below_step (below_step hB hb) hbA
  have hS1 : Kd.N k50 50 w1 w.heap.size (fun k => W.heap.size ≤ k ∧ k < gb) v1 cs := Kd.N_lower (Kd.N_mono (Kd.N_bound hS) (fun k hk => ⟨hk.1, by rw [hg]; exact hk.2⟩)) hB.size
  have hR1 : Kd.R k59 59 w1 w.heap.size (fun k => W.heap.size ≤ k ∧ k < gb) v2 ts := Kd.R_lower (Kd.R_mono (Kd.R_bound hR) (fun k hk => ⟨hk.2.1, by rw [hg]; exact hk.2.2.1⟩)) hB.size
  have hS2 := Kd.N_below hS1 hbA
  have hR2 := Kd.R_below hR1 hbA
  refine ⟨below_set (below_set (below_set hwA hgw) hgw) hgw, below_set (below_set (below_set hWA hge) hge) hge, ?_, ?_, b3, hge, blk_lt b3⟩
  · exact Kd.N_far (Kd.N_far (Kd.N_far hS2 (fun k hk => Nat.ne_of_lt hk.2) _) (fun k hk => Nat.ne_of_lt hk.2) _) (fun k hk => Nat.ne_of_lt hk.2) _
  · exact Kd.R_far (Kd.R_far (Kd.R_far hR2 (fun k hk => Nat.ne_of_lt hk.2) _) (fun k hk => Nat.ne_of_lt hk.2) _) (fun k hk => Nat.ne_of_lt hk.2) _
theorem heldMem_calls (K : Nat) (a0 a b : Int) (cs : List S50) (n : Nat) {A1 A2 : Option Addr} {c1 c2 base base' : Nat} {ok ok' : Nat → Prop} (w : World) (hS : Kd.S k50 50 w base ok (.slice A1 cs.length c1) (markC a cs)) (hR : Kd.R k59 59 w base' ok' (.slice A2 n c2) (markT b n)) (r : Int) (h : laws_heldMem.f K a0 (markC a cs) (markT b n) a = some r) :
    Calls Try.prog 12 #[.agg #[.int .i64 a0, .slice A1 cs.length c1, .slice A2 n c2], .int .i64 a] w fun e w' => e = .returned (.int .i64 r) ∧ Below w.heap.size w w' := by
  have h1 := Kd.S_reads' hS
  have h2 := Kd.R_reads' hR
  have h' := laws_heldMem.calls K a0 A1 c1 (markC a cs) A2 c2 (markT b n) a r w h1.2.2 (by rw [markC_length]; exact h1.2.1) h2.2.2 (by rw [markT_length]; exact h2.2.1) h
  rw [markC_length, markT_length] at h'
  exact h'
theorem implMemWrite_calls' (a0 : Int) (A1 : Option Addr) (c1 : Nat) (cs : List S50) (A2 : Option Addr) (c2 : Nat) (ts : List S59) (a1 : Int) (A3 : Option Addr) (c3 : Nat) (xs : List Int) (r1 r4 : Int) (r2 : List S50) (r3 : List S59) (w : World) (hr1 : Kd.C k50 w A1 cs.length cs) (hc1 : cs.length ≤ c1) (hr2 : Kd.C k59 w A2 ts.length ts) (hc2 : ts.length ≤ c2) (hr3 : Kd.C (Kd.int .u8) w A3 xs.length xs) (hc3 : xs.length ≤ c3) (hx3 : xs.length < 140737488355328) (h : memWriteF a0 cs ts a1 xs = (r1, r2, r3, r4)) :
    Calls Try.prog 26 #[.agg #[.int .i64 a0, .slice A1 cs.length c1, .slice A2 ts.length c2], .int .i64 a1, .slice A3 xs.length c3] w fun e w' => ∃ v1_ v2_ : Value, e = .returned (.tuple #[.agg #[.int .i64 r1, v1_, v2_], .int .i64 r4]) ∧ Kd.S k50 50 w' w.heap.size (fun _ => True) v1_ r2 ∧ Kd.R k59 59 w' w.heap.size (fun _ => True) v2_ r3 ∧ Below w.heap.size w w' := by
  have h' := implMemWrite_calls a0 A1 c1 cs A2 c2 ts a1 A3 c3 xs w hr1 hc1 hr2 hc2 hr3 hc3 hx3
  rw [h] at h'
  exact h'
set_option maxHeartbeats 8000000 in
set_option maxRecDepth 100000 in
theorem law_calls (a0 : Int) (Aa : Option Addr) (ca : Nat) (l1 : List S68) (Ab : Option Addr) (cb : Nat) (l2 : List S71) (at_ : Int) (Ax : Option Addr) (cx : Nat) (xs : List Int) (w : World) (hC1 : Kd.C k68 w Aa l1.length l1) (hL1 : l1.length ≤ ca) (hC2 : Kd.C k71 w Ab l2.length l2) (hL2 : l2.length ≤ cb) (hX : Kd.C (Kd.int .u8) w Ax xs.length xs) (hLX : xs.length ≤ cx)
    (hb : ∀ i : Nat, i < l1.length → (rd_T68 l1 (i : Int)).f0.length ≤ 9223372036854775807) :
    Calls Try.prog 7 #[.agg #[.int .i64 a0, .slice Aa l1.length ca, .slice Ab l2.length cb], .int .i64 at_, .slice Ax xs.length cx] w fun e w' => e = .returned (.bool true) ∧ Below w.heap.size w w' := by
  have hu33 := Try.underlying33
  obtain ⟨K, hK0⟩ : ∃ K : Nat, 3000000 ≤ K := ⟨3000000, Nat.le_refl _⟩
  have hK := Aside0.mk hK0
  have h1 := Kd.C_max hC1
  have h2 := Kd.C_max hC2
  obtain ⟨r, hsz, hr⟩ := szMem_f a0 l1 l2 h1 h2 hb (show 1048577 < K by omega)
  have hsum := szMem_sum a0 l1 l2 h1 h2 hb (show 1048577 < K by omega) hsz
  have HSZ := Aside0.mk hsz
  have HC1 := Aside0.mk hC1
  have HC2 := Aside0.mk hC2
  have HL1 := Aside0.mk hL1
  have HL2 := Aside0.mk hL2
  have HX := Aside0.mk hX
  have HLX := Aside0.mk hLX
  have HB := Aside0.mk (Below.refl w.heap.size w)
  by_cases hx : xs.length ≤ 1048576
  rotate_left
  · have hx1 : decide ((xs.length : Int) > 1048576) = true := decide_eq_true (by omega)
    clear hK0 h1 h2 hsz hsum hC1 hC2 hL1 hL2 hb hr hX hLX hx
    go_enter Try.func7, Try.ntmps7
    go_wp2_with (first | ((with_reducible refine gate_dst (N := 3) rfl ?_); (try (refine gate_guard (by rfl) ?_; dsimp only)); refine box_event ?hg (N := 3) ?hd (cs := #[.int .i64 a0, .slice Aa l1.length ca, .slice Ab l2.length cb]) (t := 33) ?hr ?_; (case hd => rfl); (case hg => rfl); (case hr => first | (go_simp; done) | (go_simp; rfl)); intro gbA hg_ w6A hbox_ hb_; have n0_ := Aside0.mk (below_step HB.out hb_); have n1_ := Aside0.mk hbox_; have n2_ := Aside0.mk (blk_lt hbox_); have n3_ := Aside0.mk (show w.heap.size ≤ gbA by rw [hg_]; exact Nat.le_refl _); clear HB hb_ hbox_ hg_; have HB := n0_; have BKA := n1_; have SZA := n2_; have GEA := n3_; clear n0_ n1_ n2_ n3_; have hczA_0 : w6A.cell? ⟨gbA, 0, none⟩ = some (Value.int .i64 a0) := (blk_cell BKA.out 0).trans rfl; have hczA_1 : w6A.cell? ⟨gbA, 1, none⟩ = some (.slice Aa l1.length ca) := (blk_cell BKA.out 1).trans rfl; have hczA_2 : w6A.cell? ⟨gbA, 2, none⟩ = some (.slice Ab l2.length cb) := (blk_cell BKA.out 2).trans rfl) | (go_at_call 13; refine (laws_szMem.calls K a0 Aa ca l1 Ab cb l2 1048576 r _ (Kd.C_below HC1.out HB.out) HL1.out (Kd.C_below HC2.out HB.out) HL2.out HSZ.out).mono ?_; rintro e wz ⟨rfl, hb_⟩; clear hczA_0 hczA_1 hczA_2; replace SZA := aZ SZA hb_; replace BKA := aB BKA hb_; replace HB := aH HB hb_; have hczA_0 : wz.cell? ⟨gbA, 0, none⟩ = some (Value.int .i64 a0) := (blk_cell BKA.out 0).trans rfl; have hczA_1 : wz.cell? ⟨gbA, 1, none⟩ = some (.slice Aa l1.length ca) := (blk_cell BKA.out 1).trans rfl; have hczA_2 : wz.cell? ⟨gbA, 2, none⟩ = some (.slice Ab l2.length cb) := (blk_cell BKA.out 2).trans rfl; clear hb_))
    go_ret
    exact ⟨by first | rfl | (simp; done) | (simp [*]; done), HB.out⟩
  have hx1 : decide ((xs.length : Int) > 1048576) = false := decide_eq_false (by omega)
  rcases hr with hr | ⟨r0, z1, z2, zb⟩
  · have hr1 : decide (r < 0) = true := decide_eq_true hr
    clear hK0 h1 h2 hsz hsum hC1 hC2 hL1 hL2 hb hr hX hLX hx
    go_enter Try.func7, Try.ntmps7
    go_wp2_with (first | ((with_reducible refine gate_dst (N := 3) rfl ?_); (try (refine gate_guard (by rfl) ?_; dsimp only)); refine box_event ?hg (N := 3) ?hd (cs := #[.int .i64 a0, .slice Aa l1.length ca, .slice Ab l2.length cb]) (t := 33) ?hr ?_; (case hd => rfl); (case hg => rfl); (case hr => first | (go_simp; done) | (go_simp; rfl)); intro gbA hg_ w6A hbox_ hb_; have n0_ := Aside0.mk (below_step HB.out hb_); have n1_ := Aside0.mk hbox_; have n2_ := Aside0.mk (blk_lt hbox_); have n3_ := Aside0.mk (show w.heap.size ≤ gbA by rw [hg_]; exact Nat.le_refl _); clear HB hb_ hbox_ hg_; have HB := n0_; have BKA := n1_; have SZA := n2_; have GEA := n3_; clear n0_ n1_ n2_ n3_; have hczA_0 : w6A.cell? ⟨gbA, 0, none⟩ = some (Value.int .i64 a0) := (blk_cell BKA.out 0).trans rfl; have hczA_1 : w6A.cell? ⟨gbA, 1, none⟩ = some (.slice Aa l1.length ca) := (blk_cell BKA.out 1).trans rfl; have hczA_2 : w6A.cell? ⟨gbA, 2, none⟩ = some (.slice Ab l2.length cb) := (blk_cell BKA.out 2).trans rfl) | (go_at_call 13; refine (laws_szMem.calls K a0 Aa ca l1 Ab cb l2 1048576 r _ (Kd.C_below HC1.out HB.out) HL1.out (Kd.C_below HC2.out HB.out) HL2.out HSZ.out).mono ?_; rintro e wz ⟨rfl, hb_⟩; clear hczA_0 hczA_1 hczA_2; replace SZA := aZ SZA hb_; replace BKA := aB BKA hb_; replace HB := aH HB hb_; have hczA_0 : wz.cell? ⟨gbA, 0, none⟩ = some (Value.int .i64 a0) := (blk_cell BKA.out 0).trans rfl; have hczA_1 : wz.cell? ⟨gbA, 1, none⟩ = some (.slice Aa l1.length ca) := (blk_cell BKA.out 1).trans rfl; have hczA_2 : wz.cell? ⟨gbA, 2, none⟩ = some (.slice Ab l2.length cb) := (blk_cell BKA.out 2).trans rfl; clear hb_))
    go_ret
    exact ⟨by first | rfl | (simp; done) | (simp [*]; done), HB.out⟩
  have hr1 : decide (r < 0) = false := decide_eq_false (by omega)
  have hsum' := hsum r0
  have zc : ∀ j : Nat, j < (l1.map cellOf).length → (rd_T50 (l1.map cellOf) (j : Int)).f0.length ≤ 1048576 := fun j hj => by
    rw [List.length_map] at hj
    have := zb j hj
    rw [rd_lcell hj] at this
    rw [rd_cell (by rw [List.length_map]; exact hj), List.getElem_map]
    exact this
  have zm : ∀ c ∈ l1.map cellOf, c.f0.length ≤ 1048576 := fun c hc => by
    obtain ⟨j, hj, rfl⟩ := List.getElem_of_mem hc
    have := zc j hj
    rw [rd_cell hj] at this
    exact this
  have y1 : (l1.map cellOf).length ≤ 1048576 := by rw [List.length_map]; exact z1
  have y2 : (l2.map touchOf).length ≤ 1048576 := by rw [List.length_map]; exact z2
  have htm := toMem_f a0 l1 l2 z1 z2 zb (show 2097160 < K by omega)
  generalize l1.map cellOf = cs at *
  generalize l2.map touchOf = ts at *
  have HTM := Aside0.mk htm
  have HEX := Aside0.mk (eqMem_f a0 cs ts y1 y2 zc (show 2097160 < K by omega))
  obtain ⟨m0, rc, rt, rk, hF⟩ : ∃ m0 rc rt rk, memWriteF a0 cs ts at_ xs = (m0, rc, rt, rk) := ⟨_, _, _, _, rfl⟩
  obtain ⟨f1, f2, f3⟩ := memWriteF_facts hF
  have hsp := spec_MemWrite_f a0 cs ts at_ xs (k := K) (by omega)
  rw [hF] at hsp
  have HSP := Aside0.mk hsp
  have HF := Aside0.mk hF
  have HTB := Aside0.mk (toByteS_f xs (by omega) (k := K) (by omega))
  have f5 : ∀ c ∈ rc, c.f0.length ≤ 1048576 := fun c hc => Nat.le_trans (f2 c hc) (by decide)
  have f6 := sumC_le rc 1000 f2
  have f7 : sumC rc ≤ 128000 := Nat.le_trans f6 (Nat.le_trans (Nat.mul_le_mul_right 1000 f1) (by decide))
  have HEQ := Aside0.mk (eqMem_f m0 rc rt (by omega) (by omega) (rd_of_mem f5) (k := K) (by omega))
  have HHL := Aside0.mk (heldMem_f m0 1 rc rt.length (by decide) (by decide) (by omega) (by omega) (rd_of_mem f5) (by omega) (k := K) (by omega))
  have hEB : laws_eqByteS.f K xs xs = some true := by rw [eqByteS_f xs xs (by omega) (by omega), decide_eq_true rfl]
  have HEB := Aside0.mk hEB
  obtain ⟨kv, hkv⟩ : ∃ kv, 1 + (sumC cs : Int) + 3 * (ts.length : Int) = kv := ⟨_, rfl⟩
  have HKV := Aside0.mk hkv
  obtain ⟨kw, hkw⟩ : ∃ kw, kv + (xs.length : Int) = kw := ⟨_, rfl⟩
  have hmb := markByteS_f kv (by omega) (by omega) xs (by omega) (k := K) (by omega)
  rw [hkw] at hmb
  have HMB := Aside0.mk hmb
  obtain ⟨mv, hmv⟩ : ∃ mv, 1 + (sumC rc : Int) + 3 * (rt.length : Int) = mv := ⟨_, rfl⟩
  have HMV := Aside0.mk hmv
  rw [hmv] at HHL
  have hkw0 : decide (kw < 0) = false := decide_eq_false (by omega)
  have hmv0 : decide (mv < 0) = false := decide_eq_false (by omega)
  have hmv1 : (mv != mv) = false := by simp
  have hrk1 : (rk != rk) = false := by simp
  have Y1 := Aside0.mk y1
  have Y2 := Aside0.mk y2
  have Y3 := Aside0.mk hsum'
  have Y4 := Aside0.mk zm
  have Y5 := Aside0.mk hx
  have Z1 := Aside0.mk (show rc.length ≤ 1048576 by omega)
  have Z2 := Aside0.mk (show rt.length ≤ 1048576 by omega)
  have Z3 := Aside0.mk f7
  have Z4 := Aside0.mk f5
  clear hK0 h1 h2 hsz hsum hC1 hC2 hL1 hL2 hb r0 z1 z2 zb hsum' zc zm y1 y2 htm hF f1 f2 f3 f5 f6 f7 hsp hEB hkv hmv hmb hkw hX hLX hx
  go_enter Try.func7, Try.ntmps7
  go_wp2_with (first | ((with_reducible refine gate_dst (N := 3) rfl ?_); (try (refine gate_guard (by rfl) ?_; dsimp only)); refine box_event ?hg (N := 3) ?hd (cs := #[.int .i64 a0, .slice Aa l1.length ca, .slice Ab l2.length cb]) (t := 33) ?hr ?_; (case hd => rfl); (case hg => rfl); (case hr => first | (go_simp; done) | (go_simp; rfl)); intro gbA hg_ w6A hbox_ hb_; have n0_ := Aside0.mk (below_step HB.out hb_); have n1_ := Aside0.mk hbox_; have n2_ := Aside0.mk (blk_lt hbox_); have n3_ := Aside0.mk (show w.heap.size ≤ gbA by rw [hg_]; exact Nat.le_refl _); clear HB hb_ hbox_ hg_; have HB := n0_; have BKA := n1_; have SZA := n2_; have GEA := n3_; clear n0_ n1_ n2_ n3_; have hczA_0 : w6A.cell? ⟨gbA, 0, none⟩ = some (Value.int .i64 a0) := (blk_cell BKA.out 0).trans rfl; have hczA_1 : w6A.cell? ⟨gbA, 1, none⟩ = some (.slice Aa l1.length ca) := (blk_cell BKA.out 1).trans rfl; have hczA_2 : w6A.cell? ⟨gbA, 2, none⟩ = some (.slice Ab l2.length cb) := (blk_cell BKA.out 2).trans rfl) | (go_at_call 13; refine (laws_szMem.calls K a0 Aa ca l1 Ab cb l2 1048576 r _ (Kd.C_below HC1.out HB.out) HL1.out (Kd.C_below HC2.out HB.out) HL2.out HSZ.out).mono ?_; rintro e wz ⟨rfl, hb_⟩; clear hczA_0 hczA_1 hczA_2; replace SZA := aZ SZA hb_; replace BKA := aB BKA hb_; replace HB := aH HB hb_; have hczA_0 : wz.cell? ⟨gbA, 0, none⟩ = some (Value.int .i64 a0) := (blk_cell BKA.out 0).trans rfl; have hczA_1 : wz.cell? ⟨gbA, 1, none⟩ = some (.slice Aa l1.length ca) := (blk_cell BKA.out 1).trans rfl; have hczA_2 : wz.cell? ⟨gbA, 2, none⟩ = some (.slice Ab l2.length cb) := (blk_cell BKA.out 2).trans rfl; clear hb_))
  have TOK1 := Aside0.mk trivial
  have TOKB1 := Aside0.mk trivial
  go_wp2_with (first | (clear TOK1; go_at_call 15; refine (laws_toMem.calls K a0 Aa ca l1 Ab cb l2 a0 cs ts _ (Kd.C_below HC1.out HB.out) HL1.out (Kd.C_below HC2.out HB.out) HL2.out HTM.out).mono ?_; rintro e t1 ⟨u1_1, u1_2, rfl, hS1, hR1, hb1⟩; obtain ⟨At1, ct1, rfl⟩ := Kd.S_slice hS1; obtain ⟨Dt1, dt1, rfl⟩ := Kd.R_slice hR1; have HT1 := Aside0.mk (And.intro hS1 (And.intro hR1 hb1)); clear hS1 hR1 hb1) | (clear TOKB1; go_at_call 25; refine (laws_toByteS.calls K Ax cx xs xs _ (Kd.C_below HX.out (below_step HB.out HT1.out.2.2)) HLX.out HTB.out).mono ?_; rintro e s1 ⟨y1, rfl, hY1, hb1⟩; obtain ⟨Ay1, cy1, rfl⟩ := Kd.R_slice hY1; replace HT1 := Aside0.mk (And.intro (Kd.S_below HT1.out.1 hb1) (And.intro (Kd.R_below HT1.out.2.1 hb1) (below_step HT1.out.2.2 hb1))); have HY1 := Aside0.mk hY1; clear hY1 hb1) | (go_at_call 24; refine (spec_MemWrite.calls K a0 _ _ cs _ _ ts at_ _ _ xs m0 rc rt rk _ (Kd.S_reads' HT1.out.1).2.2 (Kd.S_reads' HT1.out.1).2.1 (Kd.R_reads' HT1.out.2.1).2.2 (Kd.R_reads' HT1.out.2.1).2.1 (Kd.R_reads' HY1.out).2.2 (Kd.R_reads' HY1.out).2.1 HSP.out).mono ?_; rintro e w1 ⟨v1_1, v1_2, rfl, hS1, hR1, hb1⟩; obtain ⟨A1, c1, rfl⟩ := Kd.N_slice hS1; obtain ⟨D1, d1, rfl⟩ := Kd.R_slice hR1; have HN1 := Aside0.mk (And.intro (Kd.N_mono (Kd.N_lower hS1 (Below.size HT1.out.2.2)) (fun k hk => Nat.le_trans (Below.size HT1.out.2.2) hk.1)) (And.intro (Kd.R_mono (Kd.R_lower hR1 (Below.size HT1.out.2.2)) (fun k hk => Nat.le_trans (Below.size HT1.out.2.2) hk)) (below_step HT1.out.2.2 hb1))); clear hS1 hR1 hb1) | ((with_reducible refine gate_dst (N := 8) rfl ?_); refine box_event ?hg (N := 8) ?hd (cs := #[.int .i64 0, .slice none 0 0, .slice none 0 0]) (t := 25) ?hr ?_; (case hd => rfl); (case hg => rfl); (case hr => first | (go_simp; done) | (go_simp; rfl)); intro gb1 hg1 wA1 hbox1 hbA1; have HA1 := Aside0.mk (And.intro hg1 (And.intro hbox1 hbA1)); have hfa_0 := blk_frozen hbox1 0; have hfa_1 := blk_frozen hbox1 1; have hfa_2 := blk_frozen hbox1 2; have hca_0 : wA1.cell? ⟨gb1, 0, none⟩ = some (.int .i64 0) := (blk_cell hbox1 0).trans rfl; have hca_1 : wA1.cell? ⟨gb1, 1, none⟩ = some (.slice none 0 0) := (blk_cell hbox1 1).trans rfl; have hca_2 : wA1.cell? ⟨gb1, 2, none⟩ = some (.slice none 0 0) := (blk_cell hbox1 2).trans rfl; clear hg1 hbox1 hbA1) | ((with_reducible refine gate_store (t := 25) (p := 8) rfl ?_); refine store_event (t := 25) (p := 8) (v := ?vo_1) (w1 := ((wA1.setCell ⟨gb1, 0, none⟩ (.int .i64 m0)).setCell ⟨gb1, 1, none⟩ (.slice A1 (rc).length c1)).setCell ⟨gb1, 2, none⟩ (.slice D1 (rt).length d1)) ?hg ?ho ?hn ?hr ?_; (case ho => rfl); (case hg => rfl); (case hn => rfl); (case hr => first | (go_simp; done) | (go_simp; rfl)); intro W1 hW1; obtain ⟨hq1_, hq2_, hq3_, hq4_, hq5_, hq6_, hq7_⟩ := mem_newN (w := w) (W := wz) (w1 := w1) (a := m0) HB.out HN1.out.2.2 HN1.out.1 HN1.out.2.1 HA1.out.1 HA1.out.2.1 HA1.out.2.2 hW1; have KA_1 := Aside0.mk (show gbA < wz.heap.size from SZA.out); clear hczA_0 hczA_1 hczA_2; replace SZA := aZ SZA hq2_; replace BKA := aB BKA hq2_; replace HB := Aside0.mk hq1_; have HS1 := Aside0.mk hq3_; have HR1 := Aside0.mk hq4_; have BK1 := Aside0.mk hq5_; have LG1 := Aside0.mk hq6_; have SZ1 := Aside0.mk hq7_; clear hq1_ hq2_ hq3_ hq4_ hq5_ hq6_ hq7_ hW1 HN1 HA1 HT1 HY1 hfa_0 hfa_1 hfa_2 hca_0 hca_1 hca_2; have hczA_0 : W1.cell? ⟨gbA, 0, none⟩ = some (Value.int .i64 a0) := (blk_cell BKA.out 0).trans rfl; have hczA_1 : W1.cell? ⟨gbA, 1, none⟩ = some (.slice Aa l1.length ca) := (blk_cell BKA.out 1).trans rfl; have hczA_2 : W1.cell? ⟨gbA, 2, none⟩ = some (.slice Ab l2.length cb) := (blk_cell BKA.out 2).trans rfl))
  go_wp2_with (first | (go_at_call 15; refine (laws_toMem.calls K a0 Aa ca l1 Ab cb l2 a0 cs ts _ (Kd.C_below HC1.out HB.out) HL1.out (Kd.C_below HC2.out HB.out) HL2.out HTM.out).mono ?_; rintro e w0 ⟨v0_1, v0_2, rfl, hS0, hR0, hb0⟩; obtain ⟨A0, c0, rfl⟩ := Kd.S_slice hS0; obtain ⟨D0, d0, rfl⟩ := Kd.R_slice hR0; have HN0 := Aside0.mk (And.intro hS0 (And.intro hR0 hb0)); clear hS0 hR0 hb0) | ((with_reducible refine gate_dst (N := 10) rfl ?_); refine box_event ?hg (N := 10) ?hd (cs := #[.int .i64 0, .slice none 0 0, .slice none 0 0]) (t := 25) ?hr ?_; (case hd => rfl); (case hg => rfl); (case hr => first | (go_simp; done) | (go_simp; rfl)); intro gb0 hg0 wA0 hbox0 hbA0; have HA0 := Aside0.mk (And.intro hg0 (And.intro hbox0 hbA0)); have hfa_0 := blk_frozen hbox0 0; have hfa_1 := blk_frozen hbox0 1; have hfa_2 := blk_frozen hbox0 2; have hca_0 : wA0.cell? ⟨gb0, 0, none⟩ = some (.int .i64 0) := (blk_cell hbox0 0).trans rfl; have hca_1 : wA0.cell? ⟨gb0, 1, none⟩ = some (.slice none 0 0) := (blk_cell hbox0 1).trans rfl; have hca_2 : wA0.cell? ⟨gb0, 2, none⟩ = some (.slice none 0 0) := (blk_cell hbox0 2).trans rfl; clear hg0 hbox0 hbA0) | ((with_reducible refine gate_store (t := 25) (p := 10) rfl ?_); refine store_event (t := 25) (p := 10) (v := ?vo_0) (w1 := ((wA0.setCell ⟨gb0, 0, none⟩ (.int .i64 a0)).setCell ⟨gb0, 1, none⟩ (.slice A0 (cs).length c0)).setCell ⟨gb0, 2, none⟩ (.slice D0 (ts).length d0)) ?hg ?ho ?hn ?hr ?_; (case ho => rfl); (case hg => rfl); (case hn => rfl); (case hr => first | (go_simp; done) | (go_simp; rfl)); intro W2 hW0; obtain ⟨hq1_, hq2_, hq3_, hq4_, hq5_, hq6_, hq7_⟩ := mem_new (w := w) (W := W1) (w1 := w0) (a := a0) HB.out HN0.out.2.2 HN0.out.1 HN0.out.2.1 HA0.out.1 HA0.out.2.1 HA0.out.2.2 hW0; have OR_1_0 := Aside0.mk (show gb1 < W1.heap.size from SZ1.out); have KA_0 := Aside0.mk (show gbA < W1.heap.size from SZA.out); clear hczA_0 hczA_1 hczA_2; replace HS1 := aN HS1 hq2_; replace HR1 := aR HR1 hq2_; replace SZ1 := aZ SZ1 hq2_; replace BK1 := aB BK1 hq2_; replace SZA := aZ SZA hq2_; replace BKA := aB BKA hq2_; replace HB := Aside0.mk hq1_; have HS0 := Aside0.mk hq3_; have HR0 := Aside0.mk hq4_; have BK0 := Aside0.mk hq5_; have LG0 := Aside0.mk hq6_; have SZ0 := Aside0.mk hq7_; clear hq1_ hq2_ hq3_ hq4_ hq5_ hq6_ hq7_ hW0 HN0 HA0 hfa_0 hfa_1 hfa_2 hca_0 hca_1 hca_2))
  go_wp2_with (go_at_call 25; refine (laws_toByteS.calls K Ax cx xs xs _ (Kd.C_below HX.out HB.out) HLX.out HTB.out).mono ?_; rintro e wrX ⟨y_, rfl, hO_, hb_⟩; have OR_1_X := Aside0.mk (show gb1 < W2.heap.size from SZ1.out); have OR_0_X := Aside0.mk (show gb0 < W2.heap.size from SZ0.out); have KA_X := Aside0.mk (show gbA < W2.heap.size from SZA.out); obtain ⟨EX, eX, rfl⟩ := Kd.R_slice hO_; have HOX : Aside0 (Kd.R (Kd.int .u8) 5 wrX w.heap.size (fun k => W2.heap.size ≤ k ∧ k < wrX.heap.size) (.slice EX xs.length eX : Value) xs) := ⟨Kd.R_lower (Kd.R_mono (Kd.R_bound hO_) (fun k hk => ⟨hk.2.1, hk.2.2.1⟩)) (Below.size HB.out)⟩; replace HS1 := aN HS1 hb_; replace HR1 := aR HR1 hb_; replace SZ1 := aZ SZ1 hb_; replace BK1 := aB BK1 hb_; replace HS0 := aS HS0 hb_; replace HR0 := aR HR0 hb_; replace SZ0 := aZ SZ0 hb_; replace BK0 := aB BK0 hb_; replace SZA := aZ SZA hb_; replace BKA := aB BKA hb_; replace HB := aH HB hb_; have hcz0_0 : wrX.cell? ⟨gb0, 0, none⟩ = some (.int .i64 a0) := (blk_cell BK0.out 0).trans rfl; have hcz0_1 : wrX.cell? ⟨gb0, 1, none⟩ = some (.slice A0 (cs).length c0) := (blk_cell BK0.out 1).trans rfl; have hcz0_2 : wrX.cell? ⟨gb0, 2, none⟩ = some (.slice D0 (ts).length d0) := (blk_cell BK0.out 2).trans rfl; have SZX := Aside0.mk (Nat.le_refl wrX.heap.size); clear hO_ hb_)
  go_wp2_with (first | (go_at_call 26; refine (implMemWrite_calls' a0 _ _ cs _ _ ts at_ _ _ xs m0 rk rc rt _ (Kd.S_reads' HS0.out).2.2 (Kd.S_reads' HS0.out).2.1 (Kd.R_reads' HR0.out).2.2 (Kd.R_reads' HR0.out).2.1 (Kd.R_reads' HOX.out).2.2 (Kd.R_reads' HOX.out).2.1 (Nat.lt_of_le_of_lt Y5.out (by decide)) HF.out).mono ?_; rintro e w2 ⟨v2_1, v2_2, rfl, hS2, hR2, hb2⟩; obtain ⟨A2, c2, rfl⟩ := Kd.S_slice hS2; obtain ⟨D2, d2, rfl⟩ := Kd.R_slice hR2; have HN2 := Aside0.mk (And.intro hS2 (And.intro hR2 hb2)); clear hS2 hR2 hb2) | ((with_reducible refine gate_dst (N := 12) rfl ?_); refine box_event ?hg (N := 12) ?hd (cs := #[.int .i64 0, .slice none 0 0, .slice none 0 0]) (t := 25) ?hr ?_; (case hd => rfl); (case hg => rfl); (case hr => first | (go_simp; done) | (go_simp; rfl)); intro gb2 hg2 wA2 hbox2 hbA2; have HA2 := Aside0.mk (And.intro hg2 (And.intro hbox2 hbA2)); have hfa_0 := blk_frozen hbox2 0; have hfa_1 := blk_frozen hbox2 1; have hfa_2 := blk_frozen hbox2 2; have hca_0 : wA2.cell? ⟨gb2, 0, none⟩ = some (.int .i64 0) := (blk_cell hbox2 0).trans rfl; have hca_1 : wA2.cell? ⟨gb2, 1, none⟩ = some (.slice none 0 0) := (blk_cell hbox2 1).trans rfl; have hca_2 : wA2.cell? ⟨gb2, 2, none⟩ = some (.slice none 0 0) := (blk_cell hbox2 2).trans rfl; clear hg2 hbox2 hbA2) | ((with_reducible refine gate_store (t := 25) (p := 12) rfl ?_); refine store_event (t := 25) (p := 12) (v := ?vo_2) (w1 := ((wA2.setCell ⟨gb2, 0, none⟩ (.int .i64 m0)).setCell ⟨gb2, 1, none⟩ (.slice A2 (rc).length c2)).setCell ⟨gb2, 2, none⟩ (.slice D2 (rt).length d2)) ?hg ?ho ?hn ?hr ?_; (case ho => rfl); (case hg => rfl); (case hn => rfl); (case hr => first | (go_simp; done) | (go_simp; rfl)); intro W3 hW2; obtain ⟨hq1_, hq2_, hq3_, hq4_, hq5_, hq6_, hq7_⟩ := mem_new (w := w) (W := wrX) (w1 := w2) (a := m0) HB.out HN2.out.2.2 HN2.out.1 HN2.out.2.1 HA2.out.1 HA2.out.2.1 HA2.out.2.2 hW2; have OR_1_2 := Aside0.mk (show gb1 < wrX.heap.size from SZ1.out); have OR_0_2 := Aside0.mk (show gb0 < wrX.heap.size from SZ0.out); have OR_X_2 := Aside0.mk (show wrX.heap.size ≤ wrX.heap.size from SZX.out); have KA_2 := Aside0.mk (show gbA < wrX.heap.size from SZA.out); clear hcz0_0 hcz0_1 hcz0_2; replace HS1 := aN HS1 hq2_; replace HR1 := aR HR1 hq2_; replace SZ1 := aZ SZ1 hq2_; replace BK1 := aB BK1 hq2_; replace HS0 := aS HS0 hq2_; replace HR0 := aR HR0 hq2_; replace SZ0 := aZ SZ0 hq2_; replace BK0 := aB BK0 hq2_; replace SZA := aZ SZA hq2_; replace BKA := aB BKA hq2_; replace HOX := aR HOX hq2_; replace SZX := aY SZX hq2_; replace HB := Aside0.mk hq1_; have HS2 := Aside0.mk hq3_; have HR2 := Aside0.mk hq4_; have BK2 := Aside0.mk hq5_; have LG2 := Aside0.mk hq6_; have SZ2 := Aside0.mk hq7_; clear hq1_ hq2_ hq3_ hq4_ hq5_ hq6_ hq7_ hW2 HN2 HA2 hfa_0 hfa_1 hfa_2 hca_0 hca_1 hca_2; have hcz2_0 : W3.cell? ⟨gb2, 0, none⟩ = some (.int .i64 m0) := (blk_cell BK2.out 0).trans rfl; have hcz2_1 : W3.cell? ⟨gb2, 1, none⟩ = some (.slice A2 (rc).length c2) := (blk_cell BK2.out 1).trans rfl; have hcz2_2 : W3.cell? ⟨gb2, 2, none⟩ = some (.slice D2 (rt).length d2) := (blk_cell BK2.out 2).trans rfl; have hcz1_0 : W3.cell? ⟨gb1, 0, none⟩ = some (.int .i64 m0) := (blk_cell BK1.out 0).trans rfl; have hcz1_1 : W3.cell? ⟨gb1, 1, none⟩ = some (.slice A1 (rc).length c1) := (blk_cell BK1.out 1).trans rfl; have hcz1_2 : W3.cell? ⟨gb1, 2, none⟩ = some (.slice D1 (rt).length d1) := (blk_cell BK1.out 2).trans rfl))
  go_wp2_with (go_at_call 10; refine (laws_eqMem.calls K m0 _ _ rc _ _ rt m0 _ _ rc _ _ rt true _ (Kd.S_reads' HS2.out).2.2 (Kd.S_reads' HS2.out).2.1 (Kd.R_reads' HR2.out).2.2 (Kd.R_reads' HR2.out).2.1 (Kd.N_reads' HS1.out).2.2 (Kd.N_reads' HS1.out).2.1 (Kd.R_reads' HR1.out).2.2 (Kd.R_reads' HR1.out).2.1 HEQ.out).mono ?_; rintro e we3 ⟨rfl, hb_⟩; clear hcz2_0 hcz2_1 hcz2_2 hcz1_0 hcz1_1 hcz1_2; replace HS1 := aN HS1 hb_; replace HR1 := aR HR1 hb_; replace SZ1 := aZ SZ1 hb_; replace BK1 := aB BK1 hb_; replace HS0 := aS HS0 hb_; replace HR0 := aR HR0 hb_; replace SZ0 := aZ SZ0 hb_; replace BK0 := aB BK0 hb_; replace HS2 := aS HS2 hb_; replace HR2 := aR HR2 hb_; replace SZ2 := aZ SZ2 hb_; replace BK2 := aB BK2 hb_; replace SZA := aZ SZA hb_; replace BKA := aB BKA hb_; replace HOX := aR HOX hb_; replace SZX := aY SZX hb_; replace HB := aH HB hb_; clear hb_)
  have HDr := Aside0.mk (below_drew1 (Below.refl we3.heap.size we3))
  replace HS1 := aN HS1 HDr.out
  replace HR1 := aR HR1 HDr.out
  replace SZ1 := aZ SZ1 HDr.out
  replace BK1 := aB BK1 HDr.out
  replace HS0 := aS HS0 HDr.out
  replace HR0 := aR HR0 HDr.out
  replace SZ0 := aZ SZ0 HDr.out
  replace BK0 := aB BK0 HDr.out
  replace HS2 := aS HS2 HDr.out
  replace HR2 := aR HR2 HDr.out
  replace SZ2 := aZ SZ2 HDr.out
  replace BK2 := aB BK2 HDr.out
  replace SZA := aZ SZA HDr.out
  replace BKA := aB BKA HDr.out
  replace HOX := aR HOX HDr.out
  replace SZX := aY SZX HDr.out
  replace HB := aH HB HDr.out
  clear HDr
  refine start_ (n := 5) (S := fun w' => w'.cell? ⟨gb0, 0, none⟩ = some (Value.int .i64 a0) ∧ w'.cell? ⟨gb0, 1, none⟩ = some (.slice A0 (cs).length c0) ∧ w'.cell? ⟨gb0, 2, none⟩ = some (.slice D0 (ts).length d0) ∧ w'.cell? ⟨gbA, 0, none⟩ = some (Value.int .i64 a0) ∧ w'.cell? ⟨gbA, 1, none⟩ = some (.slice Aa l1.length ca) ∧ w'.cell? ⟨gbA, 2, none⟩ = some (.slice Ab l2.length cb)) (ds := []) #[false, false, false, false, false] (by kernel_rfl) rfl rfl ⟨(blk_cell BK0.out 0).trans rfl, (blk_cell BK0.out 1).trans rfl, (blk_cell BK0.out 2).trans rfl, (blk_cell BKA.out 0).trans rfl, (blk_cell BKA.out 1).trans rfl, (blk_cell BKA.out 2).trans rfl⟩ (fun hHeld => ?_)
  generalize we3.drew = wd at HS1 HR1 BK1 SZ1 HS0 HR0 BK0 SZ0 HS2 HR2 BK2 SZ2 HOX SZX BKA SZA HB hHeld ⊢
  refine take_ (i := 0) (N := some 56) (v := ?_) (a' := ?_) #[true, false, false, false, false] rfl rfl (by kernel_rfl) (fun _ _ _ h => h) (Or.inl ⟨by rfl, ?_⟩) hHeld ?_ ?_
  rotate_left
  · rintro w' ⟨s0, s1, s2, s3, s4, s5⟩
    go_simp
    with_reducible rfl
  rotate_left
  · simp only [Act.put, List.setIfInBounds_toArray, List.set_cons_zero, List.set_cons_succ, i64_w, i32_w]
    rfl
  refine take_ (i := 1) (N := some 57) (v := ?_) (a' := ?_) #[true, true, false, false, false] rfl rfl (by kernel_rfl) (fun _ _ _ h => h) (Or.inl ⟨by rfl, ?_⟩) hHeld ?_ ?_
  rotate_left
  · rintro w' ⟨s0, s1, s2, s3, s4, s5⟩
    go_simp
    with_reducible rfl
  rotate_left
  · simp only [Act.put, List.setIfInBounds_toArray, List.set_cons_zero, List.set_cons_succ, i64_w, i32_w]
    rfl
  refine one_ (i := 2) (N := some 58) #[true, true, true, false, false] rfl rfl (by kernel_rfl) (by decide) (fun K_ hK_ => ?_)
  refine goes_ Try.func15 (by kernel_rfl) rfl #[.agg #[.int .i64 a0, .slice Aa l1.length ca, .slice Ab l2.length cb]] (by rfl) rfl rfl (by simp only [List.map_toArray, List.map_cons, List.map_nil]; rfl) ?_
  with_reducible refine (laws_toMem.calls K a0 Aa ca l1 Ab cb l2 a0 cs ts _ (Kd.C_below HC1.out HB.out) HL1.out (Kd.C_below HC2.out HB.out) HL2.out HTM.out).mono ?_
  rintro e wt ⟨u1, u2, rfl, hSt, hRt, hbt⟩
  refine ⟨_, rfl, ?_⟩
  obtain ⟨At, ct, rfl⟩ := Kd.S_slice hSt
  obtain ⟨Dt, dt, rfl⟩ := Kd.R_slice hRt
  replace HS1 := aN HS1 hbt
  replace HR1 := aR HR1 hbt
  replace SZ1 := aZ SZ1 hbt
  replace BK1 := aB BK1 hbt
  replace HS0 := aS HS0 hbt
  replace HR0 := aR HR0 hbt
  replace SZ0 := aZ SZ0 hbt
  replace BK0 := aB BK0 hbt
  replace HS2 := aS HS2 hbt
  replace HR2 := aR HR2 hbt
  replace SZ2 := aZ SZ2 hbt
  replace BK2 := aB BK2 hbt
  replace SZA := aZ SZA hbt
  replace BKA := aB BKA hbt
  replace HOX := aR HOX hbt
  replace SZX := aY SZX hbt
  replace HB := aH HB hbt
  have HSt := Aside0.mk hSt
  have HRt := Aside0.mk hRt
  clear hSt hRt hbt
  refine hK_.out _ _ ⟨(blk_cell BK0.out 0).trans rfl, (blk_cell BK0.out 1).trans rfl, (blk_cell BK0.out 2).trans rfl, (blk_cell BKA.out 0).trans rfl, (blk_cell BKA.out 1).trans rfl, (blk_cell BKA.out 2).trans rfl⟩ (fun hHeld => ?_)
  clear hK_ K_
  refine norm_ (a' := ?_) ?_ ?_
  rotate_left
  · show Act.put _ (some 58) _ = _
    simp only [Act.put, List.setIfInBounds_toArray, List.set_cons_zero, List.set_cons_succ, i64_w, i32_w]
    rfl
  refine one_ (i := 3) (N := some 59) #[true, true, true, true, false] rfl rfl (by kernel_rfl) (by decide) (fun K_ hK_ => ?_)
  refine goes_ Try.func10 (by kernel_rfl) rfl #[.agg #[Value.int .i64 a0, .slice A0 (cs).length c0, .slice D0 (ts).length d0], .agg #[.int .i64 a0, .slice At cs.length ct, .slice Dt ts.length dt]] (by rfl) rfl rfl (by simp only [List.map_toArray, List.map_cons, List.map_nil]; rfl) ?_
  with_reducible refine (laws_eqMem.calls K a0 _ _ cs _ _ ts a0 _ _ cs _ _ ts true _ (Kd.S_reads' HS0.out).2.2 (Kd.S_reads' HS0.out).2.1 (Kd.R_reads' HR0.out).2.2 (Kd.R_reads' HR0.out).2.1 (Kd.S_reads' HSt.out).2.2 (Kd.S_reads' HSt.out).2.1 (Kd.R_reads' HRt.out).2.2 (Kd.R_reads' HRt.out).2.1 HEX.out).mono ?_
  rintro e wf ⟨rfl, hb_⟩
  refine ⟨_, rfl, ?_⟩
  replace HS1 := aN HS1 hb_
  replace HR1 := aR HR1 hb_
  replace SZ1 := aZ SZ1 hb_
  replace BK1 := aB BK1 hb_
  replace HS0 := aS HS0 hb_
  replace HR0 := aR HR0 hb_
  replace SZ0 := aZ SZ0 hb_
  replace BK0 := aB BK0 hb_
  replace HS2 := aS HS2 hb_
  replace HR2 := aR HR2 hb_
  replace SZ2 := aZ SZ2 hb_
  replace BK2 := aB BK2 hb_
  replace SZA := aZ SZA hb_
  replace BKA := aB BKA hb_
  replace HOX := aR HOX hb_
  replace SZX := aY SZX hb_
  replace HB := aH HB hb_
  clear hb_ HSt HRt
  refine hK_.out _ _ ⟨(blk_cell BK0.out 0).trans rfl, (blk_cell BK0.out 1).trans rfl, (blk_cell BK0.out 2).trans rfl, (blk_cell BKA.out 0).trans rfl, (blk_cell BKA.out 1).trans rfl, (blk_cell BKA.out 2).trans rfl⟩ (fun hHeld => ?_)
  clear hK_ K_
  refine norm_ (a' := ?_) ?_ ?_
  rotate_left
  · show Act.put _ (some 59) _ = _
    simp only [Act.put, List.setIfInBounds_toArray, List.set_cons_zero, List.set_cons_succ, i64_w, i32_w]
    rfl
  refine pure_ (i := 4) (N := some 60) (v := ?_) (a' := ?_) #[true, true, true, true, true] rfl rfl (by kernel_rfl) (fun _ _ _ h => h) (Or.inl ⟨by rfl, ?_⟩) ?_ ?_
  rotate_left
  · intro w'
    go_simp
    with_reducible rfl
  rotate_left
  · simp only [Act.put, List.setIfInBounds_toArray, List.set_cons_zero, List.set_cons_succ, i64_w, i32_w]
    rfl
  refine done_ (by kernel_rfl) ?_
  go_wp2_with (go_at_call 25; refine (laws_toByteS.calls K Ax cx xs xs _ (Kd.C_below HX.out HB.out) HLX.out HTB.out).mono ?_; rintro e wvX ⟨y_, rfl, hY_, hb_⟩; replace HS1 := aN HS1 hb_; replace HR1 := aR HR1 hb_; replace SZ1 := aZ SZ1 hb_; replace BK1 := aB BK1 hb_; replace HS0 := aS HS0 hb_; replace HR0 := aR HR0 hb_; replace SZ0 := aZ SZ0 hb_; replace BK0 := aB BK0 hb_; replace HS2 := aS HS2 hb_; replace HR2 := aR HR2 hb_; replace SZ2 := aZ SZ2 hb_; replace BK2 := aB BK2 hb_; replace SZA := aZ SZA hb_; replace BKA := aB BKA hb_; replace HOX := aR HOX hb_; replace SZX := aY SZX hb_; replace HB := aH HB hb_; obtain ⟨Ay, cy, rfl⟩ := Kd.R_slice hY_; have HY_ := Aside0.mk hY_; clear hY_ hb_)
  go_wp2_with (go_at_call 19; refine (laws_eqByteS.calls K _ _ xs _ _ xs true _ (Kd.R_reads' HOX.out).2.2 (Kd.R_reads' HOX.out).2.1 (Kd.R_reads' HY_.out).2.2 (Kd.R_reads' HY_.out).2.1 HEB.out).mono ?_; rintro e wxX ⟨rfl, hd_⟩; have hb_ := hd_.below; replace HS1 := aN HS1 hb_; replace HR1 := aR HR1 hb_; replace SZ1 := aZ SZ1 hb_; replace BK1 := aB BK1 hb_; replace HS0 := aS HS0 hb_; replace HR0 := aR HR0 hb_; replace SZ0 := aZ SZ0 hb_; replace BK0 := aB BK0 hb_; replace HS2 := aS HS2 hb_; replace HR2 := aR HR2 hb_; replace SZ2 := aZ SZ2 hb_; replace BK2 := aB BK2 hb_; replace SZA := aZ SZA hb_; replace BKA := aB BKA hb_; replace HOX := aR HOX hb_; replace SZX := aY SZX hb_; replace HB := aH HB hb_; have hcz0_0 : wxX.cell? ⟨gb0, 0, none⟩ = some (.int .i64 a0) := (blk_cell BK0.out 0).trans rfl; have hcz0_1 : wxX.cell? ⟨gb0, 1, none⟩ = some (.slice A0 (cs).length c0) := (blk_cell BK0.out 1).trans rfl; have hcz0_2 : wxX.cell? ⟨gb0, 2, none⟩ = some (.slice D0 (ts).length d0) := (blk_cell BK0.out 2).trans rfl; clear hb_ hd_ HY_)
  go_wp2_with (go_at_call 11; refine (markMem_calls K (by have := hK.out; omega) a0 1 cs ts (by decide) (by decide) (by have := Y3.out; omega) Y1.out Y4.out Y2.out (fun k => W1.heap.size ≤ k ∧ k < gb0) (.slice A0 (cs).length c0) (.slice D0 (ts).length d0) w _ HB.out HS0.out HR0.out).mono ?_; rintro e W5 ⟨rfl, hS_, hR_, hB_, hK_⟩; rw [HKV.out]; replace HS1 := Aside0.mk (Kd.N_kept HS1.out hK_ (fun k hk hp => by obtain ⟨a1_, a2_⟩ := hk; obtain ⟨b1_, b2_⟩ := hp; have h_ := OR_1_0.out; omega)); replace HR1 := Aside0.mk (Kd.R_kept HR1.out hK_ (fun k hk hp => by obtain ⟨a1_, a2_⟩ := hk; obtain ⟨b1_, b2_⟩ := hp; have h_ := OR_1_0.out; omega)); replace BK1 := Aside0.mk (blk_kept BK1.out hK_ (fun h_ => by obtain ⟨b1_, b2_⟩ := h_; have q_ := OR_1_0.out; have l_ := LG1.out; omega)); replace SZ1 := Aside0.mk (Nat.lt_of_lt_of_le SZ1.out hK_.1); replace HS0 := Aside0.mk (hS_); replace HR0 := Aside0.mk (hR_); replace BK0 := Aside0.mk (blk_kept BK0.out hK_ (fun h_ => absurd h_.2 (Nat.lt_irrefl _))); replace SZ0 := Aside0.mk (Nat.lt_of_lt_of_le SZ0.out hK_.1); replace HS2 := Aside0.mk (Kd.S_kept HS2.out hK_ (fun k hk hp => by obtain ⟨a1_, a2_⟩ := hk; obtain ⟨b1_, b2_⟩ := hp; have h_ := OR_0_2.out; omega)); replace HR2 := Aside0.mk (Kd.R_kept HR2.out hK_ (fun k hk hp => by obtain ⟨a1_, a2_⟩ := hk; obtain ⟨b1_, b2_⟩ := hp; have h_ := OR_0_2.out; omega)); replace BK2 := Aside0.mk (blk_kept BK2.out hK_ (fun h_ => by obtain ⟨b1_, b2_⟩ := h_; have q_ := OR_0_2.out; have l_ := LG2.out; omega)); replace SZ2 := Aside0.mk (Nat.lt_of_lt_of_le SZ2.out hK_.1); replace HOX := Aside0.mk (Kd.R_kept HOX.out hK_ (fun k hk hp => by obtain ⟨a1_, a2_⟩ := hk; obtain ⟨b1_, b2_⟩ := hp; have h_ := OR_0_X.out; omega)); replace SZX := Aside0.mk (Nat.le_trans SZX.out hK_.1); replace BKA := Aside0.mk (blk_kept BKA.out hK_ (fun h_ => by obtain ⟨b1_, b2_⟩ := h_; have q_ := KA_0.out; omega)); replace SZA := Aside0.mk (Nat.lt_of_lt_of_le SZA.out hK_.1); replace HB := Aside0.mk (hB_); clear hS_ hR_ hB_ hK_ hcz0_0 hcz0_1 hcz0_2)
  go_wp2_with (go_at_call 20; refine (laws_markByteS.calls K (fun k => W2.heap.size ≤ k ∧ k < wrX.heap.size) (.slice EX xs.length eX : Value) xs kv kw (markL kv xs.length) w _ HB.out HOX.out HMB.out).mono ?_; rintro e W6 ⟨rfl, hQ_, hB_, hK_⟩; have hO_ : Kd.R (Kd.int .u8) 5 W6 w.heap.size (fun k => W2.heap.size ≤ k ∧ k < wrX.heap.size) (.slice EX xs.length eX : Value) (markL kv xs.length) := ⟨HOX.out.1, hQ_.2⟩; replace HS1 := Aside0.mk (Kd.N_kept HS1.out hK_ (fun k hk hp => by obtain ⟨a1_, a2_⟩ := hk; obtain ⟨b1_, b2_⟩ := hp; have h_ := OR_1_X.out; omega)); replace HR1 := Aside0.mk (Kd.R_kept HR1.out hK_ (fun k hk hp => by obtain ⟨a1_, a2_⟩ := hk; obtain ⟨b1_, b2_⟩ := hp; have h_ := OR_1_X.out; omega)); replace BK1 := Aside0.mk (blk_kept BK1.out hK_ (fun h_ => by obtain ⟨b1_, b2_⟩ := h_; have q_ := OR_1_X.out; have l_ := LG1.out; omega)); replace SZ1 := Aside0.mk (Nat.lt_of_lt_of_le SZ1.out hK_.1); replace HS0 := Aside0.mk (Kd.S_kept HS0.out hK_ (fun k hk hp => by obtain ⟨a1_, a2_⟩ := hk; obtain ⟨b1_, b2_⟩ := hp; have h_ := OR_0_X.out; omega)); replace HR0 := Aside0.mk (Kd.R_kept HR0.out hK_ (fun k hk hp => by obtain ⟨a1_, a2_⟩ := hk; obtain ⟨b1_, b2_⟩ := hp; have h_ := OR_0_X.out; omega)); replace BK0 := Aside0.mk (blk_kept BK0.out hK_ (fun h_ => by obtain ⟨b1_, b2_⟩ := h_; have q_ := OR_0_X.out; have l_ := LG0.out; omega)); replace SZ0 := Aside0.mk (Nat.lt_of_lt_of_le SZ0.out hK_.1); replace HS2 := Aside0.mk (Kd.S_kept HS2.out hK_ (fun k hk hp => by obtain ⟨a1_, a2_⟩ := hk; obtain ⟨b1_, b2_⟩ := hp; have h_ := OR_X_2.out; omega)); replace HR2 := Aside0.mk (Kd.R_kept HR2.out hK_ (fun k hk hp => by obtain ⟨a1_, a2_⟩ := hk; obtain ⟨b1_, b2_⟩ := hp; have h_ := OR_X_2.out; omega)); replace BK2 := Aside0.mk (blk_kept BK2.out hK_ (fun h_ => by obtain ⟨b1_, b2_⟩ := h_; have q_ := OR_X_2.out; have l_ := LG2.out; omega)); replace SZ2 := Aside0.mk (Nat.lt_of_lt_of_le SZ2.out hK_.1); replace BKA := Aside0.mk (blk_kept BKA.out hK_ (fun h_ => by obtain ⟨b1_, b2_⟩ := h_; have q_ := KA_X.out; omega)); replace SZA := Aside0.mk (Nat.lt_of_lt_of_le SZA.out hK_.1); replace HOX := Aside0.mk (hO_); replace SZX := Aside0.mk (Nat.le_trans SZX.out hK_.1); replace HB := Aside0.mk (hB_); clear hO_ hQ_ hB_ hK_ ; have hcz2_0 : W6.cell? ⟨gb2, 0, none⟩ = some (.int .i64 m0) := (blk_cell BK2.out 0).trans rfl; have hcz2_1 : W6.cell? ⟨gb2, 1, none⟩ = some (.slice A2 (rc).length c2) := (blk_cell BK2.out 1).trans rfl; have hcz2_2 : W6.cell? ⟨gb2, 2, none⟩ = some (.slice D2 (rt).length d2) := (blk_cell BK2.out 2).trans rfl; have hcz1_0 : W6.cell? ⟨gb1, 0, none⟩ = some (.int .i64 m0) := (blk_cell BK1.out 0).trans rfl; have hcz1_1 : W6.cell? ⟨gb1, 1, none⟩ = some (.slice A1 (rc).length c1) := (blk_cell BK1.out 1).trans rfl; have hcz1_2 : W6.cell? ⟨gb1, 2, none⟩ = some (.slice D1 (rt).length d1) := (blk_cell BK1.out 2).trans rfl)
  go_wp2_with (go_at_call 10; refine (laws_eqMem.calls K m0 _ _ rc _ _ rt m0 _ _ rc _ _ rt true _ (Kd.S_reads' HS2.out).2.2 (Kd.S_reads' HS2.out).2.1 (Kd.R_reads' HR2.out).2.2 (Kd.R_reads' HR2.out).2.1 (Kd.N_reads' HS1.out).2.2 (Kd.N_reads' HS1.out).2.1 (Kd.R_reads' HR1.out).2.2 (Kd.R_reads' HR1.out).2.1 HEQ.out).mono ?_; rintro e we6 ⟨rfl, hb_⟩; clear hcz2_0 hcz2_1 hcz2_2 hcz1_0 hcz1_1 hcz1_2; replace HS1 := aN HS1 hb_; replace HR1 := aR HR1 hb_; replace SZ1 := aZ SZ1 hb_; replace BK1 := aB BK1 hb_; replace HS0 := aS HS0 hb_; replace HR0 := aR HR0 hb_; replace SZ0 := aZ SZ0 hb_; replace BK0 := aB BK0 hb_; replace HS2 := aS HS2 hb_; replace HR2 := aR HR2 hb_; replace SZ2 := aZ SZ2 hb_; replace BK2 := aB BK2 hb_; replace SZA := aZ SZA hb_; replace BKA := aB BKA hb_; replace HOX := aR HOX hb_; replace SZX := aY SZX hb_; replace HB := aH HB hb_; have hcz2_0 : we6.cell? ⟨gb2, 0, none⟩ = some (.int .i64 m0) := (blk_cell BK2.out 0).trans rfl; have hcz2_1 : we6.cell? ⟨gb2, 1, none⟩ = some (.slice A2 (rc).length c2) := (blk_cell BK2.out 1).trans rfl; have hcz2_2 : we6.cell? ⟨gb2, 2, none⟩ = some (.slice D2 (rt).length d2) := (blk_cell BK2.out 2).trans rfl; clear hb_)
  go_wp2_with (go_at_call 11; refine (markMem_calls K (by have := hK.out; omega) m0 1 rc rt (by decide) (by decide) (by have := Z3.out; omega) Z1.out Z4.out Z2.out (fun k => wrX.heap.size ≤ k ∧ k < gb2) (.slice A2 (rc).length c2) (.slice D2 (rt).length d2) w _ HB.out HS2.out HR2.out).mono ?_; rintro e W8 ⟨rfl, hS_, hR_, hB_, hK_⟩; rw [HMV.out]; replace HS1 := Aside0.mk (Kd.N_kept HS1.out hK_ (fun k hk hp => by obtain ⟨a1_, a2_⟩ := hk; obtain ⟨b1_, b2_⟩ := hp; have h_ := OR_1_2.out; omega)); replace HR1 := Aside0.mk (Kd.R_kept HR1.out hK_ (fun k hk hp => by obtain ⟨a1_, a2_⟩ := hk; obtain ⟨b1_, b2_⟩ := hp; have h_ := OR_1_2.out; omega)); replace BK1 := Aside0.mk (blk_kept BK1.out hK_ (fun h_ => by obtain ⟨b1_, b2_⟩ := h_; have q_ := OR_1_2.out; have l_ := LG1.out; omega)); replace SZ1 := Aside0.mk (Nat.lt_of_lt_of_le SZ1.out hK_.1); replace HS0 := Aside0.mk (Kd.S_kept HS0.out hK_ (fun k hk hp => by obtain ⟨a1_, a2_⟩ := hk; obtain ⟨b1_, b2_⟩ := hp; have h_ := OR_0_2.out; omega)); replace HR0 := Aside0.mk (Kd.R_kept HR0.out hK_ (fun k hk hp => by obtain ⟨a1_, a2_⟩ := hk; obtain ⟨b1_, b2_⟩ := hp; have h_ := OR_0_2.out; omega)); replace BK0 := Aside0.mk (blk_kept BK0.out hK_ (fun h_ => by obtain ⟨b1_, b2_⟩ := h_; have q_ := OR_0_2.out; have l_ := LG0.out; omega)); replace SZ0 := Aside0.mk (Nat.lt_of_lt_of_le SZ0.out hK_.1); replace HS2 := Aside0.mk (hS_); replace HR2 := Aside0.mk (hR_); replace BK2 := Aside0.mk (blk_kept BK2.out hK_ (fun h_ => absurd h_.2 (Nat.lt_irrefl _))); replace SZ2 := Aside0.mk (Nat.lt_of_lt_of_le SZ2.out hK_.1); replace HOX := Aside0.mk (Kd.R_kept HOX.out hK_ (fun k hk hp => by obtain ⟨a1_, a2_⟩ := hk; obtain ⟨b1_, b2_⟩ := hp; have h_ := OR_X_2.out; omega)); replace SZX := Aside0.mk (Nat.le_trans SZX.out hK_.1); replace BKA := Aside0.mk (blk_kept BKA.out hK_ (fun h_ => by obtain ⟨b1_, b2_⟩ := h_; have q_ := KA_2.out; omega)); replace SZA := Aside0.mk (Nat.lt_of_lt_of_le SZA.out hK_.1); replace HB := Aside0.mk (hB_); clear hS_ hR_ hB_ hK_ hcz2_0 hcz2_1 hcz2_2; have hcz2_0 : W8.cell? ⟨gb2, 0, none⟩ = some (.int .i64 m0) := (blk_cell BK2.out 0).trans rfl; have hcz2_1 : W8.cell? ⟨gb2, 1, none⟩ = some (.slice A2 (rc).length c2) := (blk_cell BK2.out 1).trans rfl; have hcz2_2 : W8.cell? ⟨gb2, 2, none⟩ = some (.slice D2 (rt).length d2) := (blk_cell BK2.out 2).trans rfl)
  go_wp2_with (go_at_call 12; refine (heldMem_calls K m0 1 ((1 + (sumC rc : Int))) rc (rt.length) _ HS2.out HR2.out mv HHL.out).mono ?_; rintro e wh8 ⟨rfl, hb_⟩; clear hcz2_0 hcz2_1 hcz2_2; replace HS1 := aN HS1 hb_; replace HR1 := aR HR1 hb_; replace SZ1 := aZ SZ1 hb_; replace BK1 := aB BK1 hb_; replace HS0 := aS HS0 hb_; replace HR0 := aR HR0 hb_; replace SZ0 := aZ SZ0 hb_; replace BK0 := aB BK0 hb_; replace HS2 := aS HS2 hb_; replace HR2 := aR HR2 hb_; replace SZ2 := aZ SZ2 hb_; replace BK2 := aB BK2 hb_; replace SZA := aZ SZA hb_; replace BKA := aB BKA hb_; replace HOX := aR HOX hb_; replace SZX := aY SZX hb_; replace HB := aH HB hb_; have hczA_0 : wh8.cell? ⟨gbA, 0, none⟩ = some (Value.int .i64 a0) := (blk_cell BKA.out 0).trans rfl; have hczA_1 : wh8.cell? ⟨gbA, 1, none⟩ = some (.slice Aa l1.length ca) := (blk_cell BKA.out 1).trans rfl; have hczA_2 : wh8.cell? ⟨gbA, 2, none⟩ = some (.slice Ab l2.length cb) := (blk_cell BKA.out 2).trans rfl; clear hb_)
  have TOK3 := Aside0.mk trivial
  have TOKB3 := Aside0.mk trivial
  go_wp2_with (first | (clear TOK3; go_at_call 15; refine (laws_toMem.calls K a0 Aa ca l1 Ab cb l2 a0 cs ts _ (Kd.C_below HC1.out HB.out) HL1.out (Kd.C_below HC2.out HB.out) HL2.out HTM.out).mono ?_; rintro e t3 ⟨u3_1, u3_2, rfl, hS3, hR3, hb3⟩; obtain ⟨At3, ct3, rfl⟩ := Kd.S_slice hS3; obtain ⟨Dt3, dt3, rfl⟩ := Kd.R_slice hR3; have HT3 := Aside0.mk (And.intro hS3 (And.intro hR3 hb3)); clear hS3 hR3 hb3) | (clear TOKB3; go_at_call 25; refine (laws_toByteS.calls K Ax cx xs xs _ (Kd.C_below HX.out (below_step HB.out HT3.out.2.2)) HLX.out HTB.out).mono ?_; rintro e s3 ⟨y3, rfl, hY3, hb3⟩; obtain ⟨Ay3, cy3, rfl⟩ := Kd.R_slice hY3; replace HT3 := Aside0.mk (And.intro (Kd.S_below HT3.out.1 hb3) (And.intro (Kd.R_below HT3.out.2.1 hb3) (below_step HT3.out.2.2 hb3))); have HY3 := Aside0.mk hY3; clear hY3 hb3) | (go_at_call 26; refine (implMemWrite_calls' a0 _ _ cs _ _ ts at_ _ _ xs m0 rk rc rt _ (Kd.S_reads' HT3.out.1).2.2 (Kd.S_reads' HT3.out.1).2.1 (Kd.R_reads' HT3.out.2.1).2.2 (Kd.R_reads' HT3.out.2.1).2.1 (Kd.R_reads' HY3.out).2.2 (Kd.R_reads' HY3.out).2.1 (Nat.lt_of_le_of_lt Y5.out (by decide)) HF.out).mono ?_; rintro e w3 ⟨v3_1, v3_2, rfl, hS3, hR3, hb3⟩; obtain ⟨A3, c3, rfl⟩ := Kd.S_slice hS3; obtain ⟨D3, d3, rfl⟩ := Kd.R_slice hR3; have HN3 := Aside0.mk (And.intro (Kd.S_lower hS3 (Below.size HT3.out.2.2)) (And.intro (Kd.R_lower hR3 (Below.size HT3.out.2.2)) (below_step HT3.out.2.2 hb3))); clear hS3 hR3 hb3) | ((with_reducible refine gate_dst (N := 17) rfl ?_); refine box_event ?hg (N := 17) ?hd (cs := #[.int .i64 0, .slice none 0 0, .slice none 0 0]) (t := 25) ?hr ?_; (case hd => rfl); (case hg => rfl); (case hr => first | (go_simp; done) | (go_simp; rfl)); intro gb3 hg3 wA3 hbox3 hbA3; have HA3 := Aside0.mk (And.intro hg3 (And.intro hbox3 hbA3)); have hfa_0 := blk_frozen hbox3 0; have hfa_1 := blk_frozen hbox3 1; have hfa_2 := blk_frozen hbox3 2; have hca_0 : wA3.cell? ⟨gb3, 0, none⟩ = some (.int .i64 0) := (blk_cell hbox3 0).trans rfl; have hca_1 : wA3.cell? ⟨gb3, 1, none⟩ = some (.slice none 0 0) := (blk_cell hbox3 1).trans rfl; have hca_2 : wA3.cell? ⟨gb3, 2, none⟩ = some (.slice none 0 0) := (blk_cell hbox3 2).trans rfl; clear hg3 hbox3 hbA3) | ((with_reducible refine gate_store (t := 25) (p := 17) rfl ?_); refine store_event (t := 25) (p := 17) (v := ?vo_3) (w1 := ((wA3.setCell ⟨gb3, 0, none⟩ (.int .i64 m0)).setCell ⟨gb3, 1, none⟩ (.slice A3 (rc).length c3)).setCell ⟨gb3, 2, none⟩ (.slice D3 (rt).length d3)) ?hg ?ho ?hn ?hr ?_; (case ho => rfl); (case hg => rfl); (case hn => rfl); (case hr => first | (go_simp; done) | (go_simp; rfl)); intro W10 hW3; obtain ⟨hq1_, hq2_, hq3_, hq4_, hq5_, hq6_, hq7_⟩ := mem_new (w := w) (W := wh8) (w1 := w3) (a := m0) HB.out HN3.out.2.2 HN3.out.1 HN3.out.2.1 HA3.out.1 HA3.out.2.1 HA3.out.2.2 hW3; have OR_1_3 := Aside0.mk (show gb1 < wh8.heap.size from SZ1.out); have OR_0_3 := Aside0.mk (show gb0 < wh8.heap.size from SZ0.out); have OR_2_3 := Aside0.mk (show gb2 < wh8.heap.size from SZ2.out); have OR_X_3 := Aside0.mk (show wrX.heap.size ≤ wh8.heap.size from SZX.out); have KA_3 := Aside0.mk (show gbA < wh8.heap.size from SZA.out); clear hczA_0 hczA_1 hczA_2; replace HS1 := aN HS1 hq2_; replace HR1 := aR HR1 hq2_; replace SZ1 := aZ SZ1 hq2_; replace BK1 := aB BK1 hq2_; replace HS0 := aS HS0 hq2_; replace HR0 := aR HR0 hq2_; replace SZ0 := aZ SZ0 hq2_; replace BK0 := aB BK0 hq2_; replace HS2 := aS HS2 hq2_; replace HR2 := aR HR2 hq2_; replace SZ2 := aZ SZ2 hq2_; replace BK2 := aB BK2 hq2_; replace SZA := aZ SZA hq2_; replace BKA := aB BKA hq2_; replace HOX := aR HOX hq2_; replace SZX := aY SZX hq2_; replace HB := Aside0.mk hq1_; have HS3 := Aside0.mk hq3_; have HR3 := Aside0.mk hq4_; have BK3 := Aside0.mk hq5_; have LG3 := Aside0.mk hq6_; have SZ3 := Aside0.mk hq7_; clear hq1_ hq2_ hq3_ hq4_ hq5_ hq6_ hq7_ hW3 HN3 HA3 HT3 HY3 hfa_0 hfa_1 hfa_2 hca_0 hca_1 hca_2; have hcz3_0 : W10.cell? ⟨gb3, 0, none⟩ = some (.int .i64 m0) := (blk_cell BK3.out 0).trans rfl; have hcz3_1 : W10.cell? ⟨gb3, 1, none⟩ = some (.slice A3 (rc).length c3) := (blk_cell BK3.out 1).trans rfl; have hcz3_2 : W10.cell? ⟨gb3, 2, none⟩ = some (.slice D3 (rt).length d3) := (blk_cell BK3.out 2).trans rfl; have hcz1_0 : W10.cell? ⟨gb1, 0, none⟩ = some (.int .i64 m0) := (blk_cell BK1.out 0).trans rfl; have hcz1_1 : W10.cell? ⟨gb1, 1, none⟩ = some (.slice A1 (rc).length c1) := (blk_cell BK1.out 1).trans rfl; have hcz1_2 : W10.cell? ⟨gb1, 2, none⟩ = some (.slice D1 (rt).length d1) := (blk_cell BK1.out 2).trans rfl))
  go_wp2_with (go_at_call 10; refine (laws_eqMem.calls K m0 _ _ rc _ _ rt m0 _ _ rc _ _ rt true _ (Kd.S_reads' HS3.out).2.2 (Kd.S_reads' HS3.out).2.1 (Kd.R_reads' HR3.out).2.2 (Kd.R_reads' HR3.out).2.1 (Kd.N_reads' HS1.out).2.2 (Kd.N_reads' HS1.out).2.1 (Kd.R_reads' HR1.out).2.2 (Kd.R_reads' HR1.out).2.1 HEQ.out).mono ?_; rintro e we10 ⟨rfl, hb_⟩; clear hcz3_0 hcz3_1 hcz3_2 hcz1_0 hcz1_1 hcz1_2; replace HS1 := aN HS1 hb_; replace HR1 := aR HR1 hb_; replace SZ1 := aZ SZ1 hb_; replace BK1 := aB BK1 hb_; replace HS0 := aS HS0 hb_; replace HR0 := aR HR0 hb_; replace SZ0 := aZ SZ0 hb_; replace BK0 := aB BK0 hb_; replace HS2 := aS HS2 hb_; replace HR2 := aR HR2 hb_; replace SZ2 := aZ SZ2 hb_; replace BK2 := aB BK2 hb_; replace HS3 := aS HS3 hb_; replace HR3 := aR HR3 hb_; replace SZ3 := aZ SZ3 hb_; replace BK3 := aB BK3 hb_; replace SZA := aZ SZA hb_; replace BKA := aB BKA hb_; replace HOX := aR HOX hb_; replace SZX := aY SZX hb_; replace HB := aH HB hb_; have hcz2_0 : we10.cell? ⟨gb2, 0, none⟩ = some (.int .i64 m0) := (blk_cell BK2.out 0).trans rfl; have hcz2_1 : we10.cell? ⟨gb2, 1, none⟩ = some (.slice A2 (rc).length c2) := (blk_cell BK2.out 1).trans rfl; have hcz2_2 : we10.cell? ⟨gb2, 2, none⟩ = some (.slice D2 (rt).length d2) := (blk_cell BK2.out 2).trans rfl; clear hb_)
  go_wp2_with (go_at_call 12; refine (heldMem_calls K m0 1 ((1 + (sumC rc : Int))) rc (rt.length) _ HS2.out HR2.out mv HHL.out).mono ?_; rintro e wh11 ⟨rfl, hb_⟩; clear hcz2_0 hcz2_1 hcz2_2; replace HS1 := aN HS1 hb_; replace HR1 := aR HR1 hb_; replace SZ1 := aZ SZ1 hb_; replace BK1 := aB BK1 hb_; replace HS0 := aS HS0 hb_; replace HR0 := aR HR0 hb_; replace SZ0 := aZ SZ0 hb_; replace BK0 := aB BK0 hb_; replace HS2 := aS HS2 hb_; replace HR2 := aR HR2 hb_; replace SZ2 := aZ SZ2 hb_; replace BK2 := aB BK2 hb_; replace HS3 := aS HS3 hb_; replace HR3 := aR HR3 hb_; replace SZ3 := aZ SZ3 hb_; replace BK3 := aB BK3 hb_; replace SZA := aZ SZA hb_; replace BKA := aB BKA hb_; replace HOX := aR HOX hb_; replace SZX := aY SZX hb_; replace HB := aH HB hb_; clear hb_)
  go_ret
  exact ⟨by first | rfl | (simp; done) | (simp [*]; done), HB.out⟩

end Go.Proofs.Ytoceiaaigiflpaa.Pure
