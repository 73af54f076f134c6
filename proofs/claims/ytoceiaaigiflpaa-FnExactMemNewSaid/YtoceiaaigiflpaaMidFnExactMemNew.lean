/- Marking a memory of the call's own, and what a call that makes a memory leaves in a variable: walks of this session's own beside the printed ones. -/
import Derived.Test.YtoceiaaigiflpaaQFnExactMemNewx4
import Derived.Test.YtoceiaaigiflpaaPureFnExactMemNew
set_option linter.unusedVariables false
set_option linter.unusedSimpArgs false
namespace Go.Proofs.Ytoceiaaigiflpaa.Pure
open Go.RowKit Go.Proofs.YtoceiaaigiflpaaW.PrintWords Go.Proofs.YtoceiaaigiflpaaW.PrintLast Go.Proofs.YtoceiaaigiflpaaW.PrintMore Go.Proofs.Ytoceiaaigiflpaa.PFnExactMemNew Go.Proofs.Ytoceiaaigiflpaa.L
set_option maxHeartbeats 8000000 in
set_option maxRecDepth 100000 in
/-- The cells of a memory of the call's own are marked: the row that leads to them stays, and so does all that is none of theirs. -/
theorem markCellS_calls (K : Nat) (hK : 1048580 < K) (cs : List S50) (a : Int) (h0 : 0 ≤ a) (h1 : a ≤ 100000000) (hs : sumC cs ≤ 100000000) (hn : cs.length ≤ 1048576) (hbl : ∀ c ∈ cs, c.f0.length ≤ 1048576) (P0_ : Nat → Prop) (u : Value) (w0 w : World) (hB : Below w0.heap.size w0 w) (ho0 : Kd.S k50 50 w w0.heap.size P0_ u cs) :
    Calls Try.prog 31 #[u, .int .i64 a] w fun e w' => e = .returned (.int .i64 (a + (sumC cs : Int))) ∧ Kd.S k50 50 w' w0.heap.size P0_ u (markC a cs) ∧ Below w0.heap.size w0 w' ∧ Kept w w' P0_ := by
  obtain ⟨A, c, rfl⟩ := Kd.S_slice ho0
  have HO0 := Aside0.mk ho0
  have HB0 := Aside0.mk hB
  have hu50 := Try.underlying50
  clear ho0 hB
  go_enter Try.func31, Try.ntmps31
  go_wp2
  go_loopg [1, 5] (cs.length + 1) (fun kq v1 v5 w' => ∃ i : Nat, v1 = .int .i64 (a + (sumC (cs.take i) : Int)) ∧ v5 = .int .i64 (i : Int) ∧ Aside0 (i ≤ cs.length) ∧ Aside0 (kq + i = cs.length + 1) ∧ Aside0 (Kd.S k50 50 w' w0.heap.size P0_ (.slice A cs.length c) (midC a cs i)) ∧ Aside0 (Kept w w' P0_) ∧ Aside0 (Below w0.heap.size w0 w'))
  case atStart => exact ⟨0, by simp [sumC], rfl, ⟨Nat.zero_le _⟩, ⟨rfl⟩, ⟨by rw [midC_zero]; exact HO0.out⟩, ⟨Kept.refl w P0_⟩, ⟨HB0.out⟩⟩
  case round =>
    clear HO0 HB0
    obtain ⟨i, rfl, rfl, HI, HQ, HO, HK, HB⟩ := hrel
    cases gk with
    | zero => exact absurd HQ.out (by have := HI.out; omega)
    | succ k1 =>
      have hml := midC_length a cs i
      by_cases c3 : (i : Int) < (cs.length : Int)
      · have LI : i < cs.length := by omega
        have c4 : 0 ≤ (i : Int) := Int.natCast_nonneg i
        obtain ⟨g, cap, e, gb, gl, cl, HG⟩ := Kd.S_form HO.out (by omega)
        injection e with e1 e2 e3
        subst e1
        subst e3
        obtain ⟨oki, cc, hcl, hM, hcc, hoki, hH⟩ := Kd.S_lend HO.out z50 (i : Int) c4 (by omega)
        rw [Int.toNat_natCast, midC_at a LI] at hM
        obtain ⟨v0, rfl, hR⟩ := k50_openM hM
        obtain ⟨A2, c2, rfl⟩ := Kd.R_slice hR
        have hx0 : wr.cell? ⟨g, i, none⟩ = some (.slice A2 cs[i].f0.length c2) := by
          have h := hcc 0 _ rfl
          rw [show ((i : Int).toNat * k50.sz + 0) = i from by show ((i : Int).toNat * 1 + 0) = i; omega] at h
          exact h
        have hlen := hbl _ (List.getElem_mem LI)
        have htk := sumC_take cs i
        have hf : laws_markByteS.f K cs[i].f0 (a + (sumC (cs.take i) : Int)) = some (a + (sumC (cs.take i) : Int) + (cs[i].f0.length : Int), markL (a + (sumC (cs.take i) : Int)) cs[i].f0.length) := markByteS_f _ (by omega) (by omega) _ hlen (by omega)
        have hst : a + (sumC (cs.take i) : Int) + (cs[i].f0.length : Int) = a + (sumC (cs.take (i + 1)) : Int) := by rw [sumC_step LI]; omega
        rw [hst] at hf
        have LW : wrap64 ((i : Int) + 1) = ((i + 1 : Nat) : Int) := by rw [show ((i : Int) + 1) = ((i + 1 : Nat) : Int) from rfl]; unfold wrap64; omega
        have AI := Aside0.mk LI
        have AW := Aside0.mk LW
        have AR := Aside0.mk hR
        have AH := Aside0.mk hH
        have AF := Aside0.mk hf
        have AK := Aside0.mk hoki
        have hzl : cs[i].f0.length = cs[i].f0.length := rfl
        have c3b0 : decide ((i : Int) < (cs.length : Int)) = true := decide_eq_true c3
        have c3b1 : decide (i < cs.length) = true := decide_eq_true LI
        generalize hci : cs[i] = ci at *
        have AC := Aside0.mk (show ∀ h : i < cs.length, cs[i]'h = ci from fun _ => hci)
        clear LI LW hR hH hf hoki hM hcc hcl hlen htk hst hzl hci hml e2 gb gl cl HG
        replace c4 := eq_true c4
        replace c3 := eq_true c3
        go_wp2_with (go_at_call 20; refine (laws_markByteS.calls K oki (.slice A2 ci.f0.length c2) ci.f0 (a + (sumC (cs.take i) : Int)) _ _ w0 _ HB.out AR.out AF.out).mono ?_; rintro e w8 ⟨rfl, hR2, hB2, hK2⟩; have n0_ := Aside0.mk (Kd.H_back (Kd.H_kept AH.out hK2 (fun k _ hn => hn)) (k50_mkM w8 w0.heap.size oki ⟨markL (a + (sumC (cs.take i) : Int)) ci.f0.length⟩ ⟨AR.out.1, hR2.2⟩) (fun _ hk => hk)); have n1_ := Aside0.mk (HK.out.then_ hK2 (fun k hk => .inl (AK.out k hk).1)); have n2_ := Aside0.mk hB2; clear hR2 hB2 hK2)
        go_roundg k1
        case measure => have := HQ.out; omega
        case rel => exact ⟨i + 1, by first | rfl | (simp; done), by first | (rw [AW.out]; done) | (simp [AW.out]; done), ⟨AI.out⟩, ⟨by have := HQ.out; omega⟩, ⟨by have h := n0_.out; rw [Int.toNat_natCast] at h; rw [← midC_step a AI.out, AC.out AI.out]; exact h⟩, n1_, n2_⟩
      · have c3b0 : decide ((i : Int) < (cs.length : Int)) = false := decide_eq_false c3
        have LE : i = cs.length := by have := HI.out; omega
        have AE := Aside0.mk LE
        have c3n : decide (i < cs.length) = false := decide_eq_false (by omega)
        clear c3 LE hml
        go_wp2
        go_ret
        exact ⟨by have := AE.out; subst this; rw [List.take_length]; first | rfl | (simp; done), by have h := HO.out; rw [AE.out, midC_all] at h; exact h, HB.out, HK.out⟩
theorem R_back {α : Type} {d : Kd α} {e base : Nat} {ok ok' : Nat → Prop} {W W' : World} {v : Value} {xs ys : List α} (h : Kd.R d e W base ok v xs) (h' : Kd.R d e W' base ok' v ys) (hd : ∀ (w : World) (b : Nat) (o o' : Nat → Prop) (x : α) (c : List Value), d.M w b o x c → d.M w b o' x c) : Kd.R d e W' base ok v ys := by
  obtain ⟨_, inner, ho, hr⟩ := h'
  exact ⟨h.1, inner, ho, Reps.imp_ hr (fun p c hm => hd _ _ _ _ _ _ hm)⟩
theorem touch_free (w : World) (b : Nat) (o o' : Nat → Prop) (x : S59) (c : List Value) (h : k59.M w b o x c) : k59.M w b o' x c := h
set_option maxHeartbeats 8000000 in
set_option maxRecDepth 100000 in
/-- A memory of the call's own is marked. -/
theorem markMem_calls (K : Nat) (hK : 1048580 < K) (a0 a : Int) (cs : List S50) (ts : List S59) (h0 : 0 ≤ a) (h1 : a ≤ 100000000) (hs : sumC cs ≤ 100000000) (hn : cs.length ≤ 1048576) (hbl : ∀ c ∈ cs, c.f0.length ≤ 1048576) (ht : ts.length ≤ 1048576) (P0_ : Nat → Prop) (u1 u2 : Value) (w0 w : World) (hB : Below w0.heap.size w0 w) (ho1 : Kd.S k50 50 w w0.heap.size P0_ u1 cs) (ho2 : Kd.R k59 59 w w0.heap.size P0_ u2 ts) :
    Calls Try.prog 11 #[.agg #[.int .i64 a0, u1, u2], .int .i64 a] w fun e w' => e = .returned (.int .i64 (a + (sumC cs : Int) + 3 * (ts.length : Int))) ∧ Kd.S k50 50 w' w0.heap.size P0_ u1 (markC a cs) ∧ Kd.R k59 59 w' w0.heap.size P0_ u2 (markT (a + (sumC cs : Int)) ts.length) ∧ Below w0.heap.size w0 w' ∧ Kept w w' P0_ := by
  obtain ⟨A1, c1, rfl⟩ := Kd.S_slice ho1
  obtain ⟨A2, c2, rfl⟩ := Kd.R_slice ho2
  have hu25 := Try.underlying25
  obtain ⟨P1, hP1, hS1, hP1t⟩ : ∃ P1 : Nat → Prop, (∀ k, P1 k → P0_ k ∧ k < w.heap.size) ∧ Kd.S k50 50 w w0.heap.size P1 (.slice A1 cs.length c1) cs ∧ ∀ k, P1 k → ∃ q, q ∈ 50 :: k50.E ∧ ∃ cells, w.heap[k]? = some (.cells cells q (0, 0)) := ⟨_, fun k hk => ⟨hk.1, hk.2.2.1⟩, Kd.S_bound ho1, fun k hk => hk.2.2.2⟩
  obtain ⟨P2, hP2, hR2, hP2t⟩ : ∃ P2 : Nat → Prop, (∀ k, P2 k → P0_ k ∧ k < w.heap.size) ∧ Kd.R k59 59 w w0.heap.size P2 (.slice A2 ts.length c2) ts ∧ ∀ k, P2 k → ∃ q, q ∈ 59 :: k59.E ∧ ∃ cells, w.heap[k]? = some (.cells cells q (0, 0)) := ⟨_, fun k hk => ⟨hk.1, hk.2.2.1⟩, Kd.R_bound ho2, fun k hk => hk.2.2.2⟩
  have hne : ∀ k, P1 k → ¬ P2 k := fun k h1 h2 => by
    obtain ⟨q1, m1, x1, e1⟩ := hP1t k h1
    obtain ⟨q2, m2, x2, e2⟩ := hP2t k h2
    have hq : q1 = q2 := by
      have h := e1.symm.trans e2
      injection h with h
      injection h
    subst hq
    have m1' : q1 ∈ [50, 5] := m1
    have m2' : q1 ∈ [59] := m2
    simp at m1' m2'
    omega
  have HS1 := Aside0.mk hS1
  have HR2 := Aside0.mk hR2
  have HNE := Aside0.mk hne
  have HP1 := Aside0.mk hP1
  have HP2 := Aside0.mk hP2
  have HB := Aside0.mk hB
  have HF := Aside0.mk (markTouchS_f (a + (sumC cs : Int)) ts.length (by omega) (by omega) ht ts rfl (k := K) (by omega))
  have HM := Aside0.mk (show ∀ W W' : World, Below w0.heap.size w0 W → Kd.S k50 50 W w0.heap.size P1 (.slice A1 cs.length c1) cs → True from fun _ _ _ _ => trivial)
  clear hS1 hR2 hne hP1 hP2 hP1t hP2t ho1 ho2 hB HM
  go_enter Try.func11, Try.ntmps11
  go_wp2_with (first | ((with_reducible refine gate_dst (N := 2) rfl ?_); refine box_event ?hg (N := 2) ?hd (cs := #[.int .i64 a0, .slice A1 cs.length c1, .slice A2 ts.length c2]) (t := 25) ?hr ?_; (case hd => rfl); (case hg => rfl); (case hr => first | (go_simp; done) | (go_simp; rfl)); intro gb hg w9 hbox hb; have HX := Aside0.mk hb; have HG := Aside0.mk hg; have BK := Aside0.mk hbox; clear hb hg hbox; have hcz_0 : w9.cell? ⟨gb, 0, none⟩ = some (.int .i64 a0) := (blk_cell BK.out 0).trans rfl; have hcz_1 : w9.cell? ⟨gb, 1, none⟩ = some (.slice A1 cs.length c1) := (blk_cell BK.out 1).trans rfl; have hcz_2 : w9.cell? ⟨gb, 2, none⟩ = some (.slice A2 ts.length c2) := (blk_cell BK.out 2).trans rfl) | (go_at_call 31; refine (markCellS_calls K hK cs a h0 h1 hs hn hbl P1 (.slice A1 cs.length c1) w0 _ (below_step HB.out HX.out) (Kd.S_below HS1.out HX.out)).mono ?_; rintro e w10 ⟨rfl, hS, hB2, hK2⟩; have HS3 := Aside0.mk hS; have HB3 := Aside0.mk hB2; have HK3 := Aside0.mk hK2; have HR3 := Aside0.mk (Kd.R_kept (Kd.R_below HR2.out HX.out) hK2 (fun k h2 h1 => HNE.out k h1 h2)); have BK3 := Aside0.mk (blk_kept BK.out hK2 (fun h => by have := (HP1.out _ h).2; have := HG.out; omega)); clear hS hB2 hK2 hcz_0 hcz_1 hcz_2; have hcz_0 : w10.cell? ⟨gb, 0, none⟩ = some (.int .i64 a0) := (blk_cell BK3.out 0).trans rfl; have hcz_1 : w10.cell? ⟨gb, 1, none⟩ = some (.slice A1 cs.length c1) := (blk_cell BK3.out 1).trans rfl; have hcz_2 : w10.cell? ⟨gb, 2, none⟩ = some (.slice A2 ts.length c2) := (blk_cell BK3.out 2).trans rfl) | (go_at_call 32; refine (laws_markTouchS.calls K P2 (.slice A2 ts.length c2) ts (a + (sumC cs : Int)) _ _ w0 _ HB3.out HR3.out HF.out).mono ?_; rintro e w11 ⟨rfl, hR, hB2, hK2⟩; have HR4 := Aside0.mk (R_back HR3.out hR touch_free); have HB4 := Aside0.mk hB2; have HK4 := Aside0.mk hK2; have HS4 := Aside0.mk (Kd.S_kept HS3.out hK2 HNE.out); clear hR hB2 hK2))
  go_ret
  exact ⟨by first | rfl | (simp; done), Kd.S_mono HS4.out (fun k hk => (HP1.out k hk).1), Kd.R_mono HR4.out (fun k hk => (HP2.out k hk).1), HB4.out, ((Kept.of_below HX.out P0_).then_ HK3.out (fun k hk => .inl (HP1.out k hk).1)).then_ HK4.out (fun k hk => .inl (HP2.out k hk).1)⟩
theorem mem_new {w W w1 wA W' : World} {v1 v2 : Value} {a : Int} {cs : List S50} {ts : List S59} {gb : Nat} (hB : Below w.heap.size w W) (hb : Below W.heap.size W w1) (hS : Kd.S k50 50 w1 W.heap.size (fun _ => True) v1 cs) (hR : Kd.R k59 59 w1 W.heap.size (fun _ => True) v2 ts)
    (hg : gb = w1.heap.size) (hbox : wA.heap[gb]? = some (.cells #[.int .i64 0, .slice none 0 0, .slice none 0 0] 25 (0, 0))) (hbA : Below w1.heap.size w1 wA)
    (hW : W' = ((wA.setCell ⟨gb, 0, none⟩ (.int .i64 a)).setCell ⟨gb, 1, none⟩ v1).setCell ⟨gb, 2, none⟩ v2) :
    Below w.heap.size w W' ∧ Below W.heap.size W W' ∧ Kd.S k50 50 W' w.heap.size (fun k => W.heap.size ≤ k ∧ k < gb) v1 cs ∧ Kd.R k59 59 W' w.heap.size (fun k => W.heap.size ≤ k ∧ k < gb) v2 ts ∧ W'.heap[gb]? = some (.cells #[.int .i64 a, v1, v2] 25 (0, 0)) ∧ W.heap.size ≤ gb ∧ gb < W'.heap.size := by
  subst hW
  have hge : W.heap.size ≤ gb := by rw [hg]; exact hb.size
  have hgw : w.heap.size ≤ gb := Nat.le_trans hB.size hge
  have b1 := blk_put hbox 0 (.int .i64 a) rfl
  have b2 := blk_put b1 1 v1 rfl
  have b3 := blk_put b2 2 v2 rfl
  have hWA : Below W.heap.size W wA := below_step hb hbA
  have hwA : Below w.heap.size w wA := below_step (below_step hB hb) hbA
  have hS1 : Kd.S k50 50 w1 w.heap.size (fun k => W.heap.size ≤ k ∧ k < gb) v1 cs := Kd.S_lower (Kd.S_mono (Kd.S_bound hS) (fun k hk => ⟨hk.2.1, by rw [hg]; exact hk.2.2.1⟩)) hB.size
  have hR1 : Kd.R k59 59 w1 w.heap.size (fun k => W.heap.size ≤ k ∧ k < gb) v2 ts := Kd.R_lower (Kd.R_mono (Kd.R_bound hR) (fun k hk => ⟨hk.2.1, by rw [hg]; exact hk.2.2.1⟩)) hB.size
  have hS2 := Kd.S_below hS1 hbA
  have hR2 := Kd.R_below hR1 hbA
  refine ⟨below_set (below_set (below_set hwA hgw) hgw) hgw, below_set (below_set (below_set hWA hge) hge) hge, ?_, ?_, b3, hge, blk_lt b3⟩
  · exact Kd.S_far (Kd.S_far (Kd.S_far hS2 (fun k hk => Nat.ne_of_lt hk.2) _) (fun k hk => Nat.ne_of_lt hk.2) _) (fun k hk => Nat.ne_of_lt hk.2) _
  · exact Kd.R_far (Kd.R_far (Kd.R_far hR2 (fun k hk => Nat.ne_of_lt hk.2) _) (fun k hk => Nat.ne_of_lt hk.2) _) (fun k hk => Nat.ne_of_lt hk.2) _

theorem heldMem_calls (K : Nat) (a0 a b : Int) (cs : List S50) (n : Nat) {A1 A2 : Option Addr} {c1 c2 base base' : Nat} {ok ok' : Nat → Prop} (w : World) (hS : Kd.S k50 50 w base ok (.slice A1 cs.length c1) (markC a cs)) (hR : Kd.R k59 59 w base' ok' (.slice A2 n c2) (markT b n)) (r : Int) (h : laws_heldMem.f K a0 (markC a cs) (markT b n) a = some r) :
    Calls Try.prog 12 #[.agg #[.int .i64 a0, .slice A1 cs.length c1, .slice A2 n c2], .int .i64 a] w fun e w' => e = .returned (.int .i64 r) ∧ Below w.heap.size w w' := by
  have h1 := Kd.S_reads' hS
  have h2 := Kd.R_reads' hR
  have h' := laws_heldMem.calls K a0 A1 c1 (markC a cs) A2 c2 (markT b n) a r w h1.2.2 (by rw [markC_length]; exact h1.2.1) h2.2.2 (by rw [markT_length]; exact h2.2.1) h
  rw [markC_length, markT_length] at h'
  exact h'
set_option maxHeartbeats 8000000 in
set_option maxRecDepth 100000 in
theorem law_calls (n size : Int) (w : World) :
    Calls Try.prog 3 #[.int .i64 n, .int .i64 size] w fun e w' => e = .returned (.bool true) ∧ Below w.heap.size w w' := by
  obtain ⟨K, hK0⟩ : ∃ K : Nat, 3000000 ≤ K := ⟨3000000, Nat.le_refl _⟩
  have hK := Aside0.mk hK0
  have hl := memNewC_length n size
  have hcl := memNewC_cell n size
  have hsp := spec_MemNew_f n size (k := K) (by omega)
  have him := impl_MemNew_f n size (k := K) (by omega)
  generalize memNewC n size = cs at *
  generalize memNewS n size = m0 at *
  have hsum := sumC_le cs 1000 hcl
  have hcl2 : ∀ c ∈ cs, c.f0.length ≤ 1048576 := fun c hc => Nat.le_trans (hcl c hc) (by decide)
  have HSP := Aside0.mk hsp
  have HIM := Aside0.mk him
  have HEQ := Aside0.mk (eqMem_f m0 cs [] (by omega) (by decide) (rd_of_mem hcl2) (k := K) (by omega))
  have HHL := Aside0.mk (heldMem_f m0 1 cs 0 (by decide) (by decide) (by omega) (by omega) (rd_of_mem hcl2) (by decide) (k := K) (by omega))
  have LS := Aside0.mk (show sumC cs ≤ 128000 by omega)
  have LL := Aside0.mk (show cs.length ≤ 1048576 by omega)
  have LC := Aside0.mk hcl2
  obtain ⟨mv, hmv⟩ : ∃ mv, mv = 1 + (sumC cs : Int) + 3 * ((0 : Nat) : Int) := ⟨_, rfl⟩
  rw [← hmv] at HHL
  have HMV := Aside0.mk (show 1 + (sumC cs : Int) + 3 * ((([] : List S59).length : Nat) : Int) = mv from hmv.symm)
  have hmv0 : decide (mv < 0) = false := decide_eq_false (by omega)
  clear hK0 hl hcl hsp him hsum hcl2 hmv
  have HB := Aside0.mk (Below.refl w.heap.size w)
  go_enter Try.func3, Try.ntmps3
  go_wp2_with (first | (go_at_call 8; refine (spec_MemNew.calls K n size m0 cs [] _ HSP.out).mono ?_; rintro e w1 ⟨v1_1, v1_2, rfl, hS1, hR1, hb1⟩; obtain ⟨A1, c1, rfl⟩ := Kd.S_slice hS1; obtain ⟨D1, d1, rfl⟩ := Kd.R_slice hR1; have HN1 := Aside0.mk (And.intro hS1 (And.intro hR1 hb1)); clear hS1 hR1 hb1) | ((with_reducible refine gate_dst (N := 5) rfl ?_); refine box_event ?hg (N := 5) ?hd (cs := #[.int .i64 0, .slice none 0 0, .slice none 0 0]) (t := 25) ?hr ?_; (case hd => rfl); (case hg => rfl); (case hr => first | (go_simp; done) | (go_simp; rfl)); intro gb1 hg1 wA1 hbox1 hbA1; have HA1 := Aside0.mk (And.intro hg1 (And.intro hbox1 hbA1)); have hfa_0 := blk_frozen hbox1 0; have hfa_1 := blk_frozen hbox1 1; have hfa_2 := blk_frozen hbox1 2; have hca_0 : wA1.cell? ⟨gb1, 0, none⟩ = some (.int .i64 0) := (blk_cell hbox1 0).trans rfl; have hca_1 : wA1.cell? ⟨gb1, 1, none⟩ = some (.slice none 0 0) := (blk_cell hbox1 1).trans rfl; have hca_2 : wA1.cell? ⟨gb1, 2, none⟩ = some (.slice none 0 0) := (blk_cell hbox1 2).trans rfl; clear hg1 hbox1 hbA1) | ((with_reducible refine gate_store (t := 25) (p := 5) rfl ?_); refine store_event (t := 25) (p := 5) (v := ?vo_1) (w1 := ((wA1.setCell ⟨gb1, 0, none⟩ (.int .i64 m0)).setCell ⟨gb1, 1, none⟩ (.slice A1 (cs).length c1)).setCell ⟨gb1, 2, none⟩ (.slice D1 (([] : List S59)).length d1)) ?hg ?ho ?hn ?hr ?_; (case ho => rfl); (case hg => rfl); (case hn => rfl); (case hr => first | (go_simp; done) | (go_simp; rfl)); intro W1 hW1; obtain ⟨hq1_, hq2_, hq3_, hq4_, hq5_, hq6_, hq7_⟩ := mem_new (w := w) (W := w) (w1 := w1) (a := m0) HB.out HN1.out.2.2 HN1.out.1 HN1.out.2.1 HA1.out.1 HA1.out.2.1 HA1.out.2.2 hW1; have hbX_ := hq2_; clear HB; have HB := Aside0.mk hq1_; have HS1 := Aside0.mk hq3_; have HR1 := Aside0.mk hq4_; have BK1 := Aside0.mk hq5_; have LG1 := Aside0.mk hq6_; have SZ1 := Aside0.mk hq7_; clear hq1_ hq2_ hbX_ hq3_ hq4_ hq5_ hq6_ hq7_ hW1 HN1 HA1 hfa_0 hfa_1 hfa_2 hca_0 hca_1 hca_2; have hcz1_0 : W1.cell? ⟨gb1, 0, none⟩ = some (.int .i64 m0) := (blk_cell BK1.out 0).trans rfl; have hcz1_1 : W1.cell? ⟨gb1, 1, none⟩ = some (.slice A1 (cs).length c1) := (blk_cell BK1.out 1).trans rfl; have hcz1_2 : W1.cell? ⟨gb1, 2, none⟩ = some (.slice D1 (([] : List S59)).length d1) := (blk_cell BK1.out 2).trans rfl))
  go_wp2_with (first | (go_at_call 9; refine (impl_MemNew.calls K n size m0 cs [] _ HIM.out).mono ?_; rintro e w2 ⟨v2_1, v2_2, rfl, hS2, hR2, hb2⟩; obtain ⟨A2, c2, rfl⟩ := Kd.S_slice hS2; obtain ⟨D2, d2, rfl⟩ := Kd.R_slice hR2; have HN2 := Aside0.mk (And.intro hS2 (And.intro hR2 hb2)); clear hS2 hR2 hb2) | ((with_reducible refine gate_dst (N := 6) rfl ?_); refine box_event ?hg (N := 6) ?hd (cs := #[.int .i64 0, .slice none 0 0, .slice none 0 0]) (t := 25) ?hr ?_; (case hd => rfl); (case hg => rfl); (case hr => first | (go_simp; done) | (go_simp; rfl)); intro gb2 hg2 wA2 hbox2 hbA2; have HA2 := Aside0.mk (And.intro hg2 (And.intro hbox2 hbA2)); have hfa_0 := blk_frozen hbox2 0; have hfa_1 := blk_frozen hbox2 1; have hfa_2 := blk_frozen hbox2 2; have hca_0 : wA2.cell? ⟨gb2, 0, none⟩ = some (.int .i64 0) := (blk_cell hbox2 0).trans rfl; have hca_1 : wA2.cell? ⟨gb2, 1, none⟩ = some (.slice none 0 0) := (blk_cell hbox2 1).trans rfl; have hca_2 : wA2.cell? ⟨gb2, 2, none⟩ = some (.slice none 0 0) := (blk_cell hbox2 2).trans rfl; clear hg2 hbox2 hbA2) | ((with_reducible refine gate_store (t := 25) (p := 6) rfl ?_); refine store_event (t := 25) (p := 6) (v := ?vo_2) (w1 := ((wA2.setCell ⟨gb2, 0, none⟩ (.int .i64 m0)).setCell ⟨gb2, 1, none⟩ (.slice A2 (cs).length c2)).setCell ⟨gb2, 2, none⟩ (.slice D2 (([] : List S59)).length d2)) ?hg ?ho ?hn ?hr ?_; (case ho => rfl); (case hg => rfl); (case hn => rfl); (case hr => first | (go_simp; done) | (go_simp; rfl)); intro W2 hW2; obtain ⟨hq1_, hq2_, hq3_, hq4_, hq5_, hq6_, hq7_⟩ := mem_new (w := w) (W := W1) (w1 := w2) (a := m0) HB.out HN2.out.2.2 HN2.out.1 HN2.out.2.1 HA2.out.1 HA2.out.2.1 HA2.out.2.2 hW2; have OR_1_2 := Aside0.mk (show gb1 < W1.heap.size from SZ1.out); have hbX_ := hq2_; have HS1_ := Aside0.mk (Kd.S_below HS1.out hbX_); have HR1_ := Aside0.mk (Kd.R_below HR1.out hbX_); have BK1_ := Aside0.mk ((Below.block hbX_ _ (blk_lt BK1.out)).trans BK1.out); have SZ1_ := Aside0.mk (Nat.lt_of_lt_of_le SZ1.out (Below.size hbX_)); clear hcz1_0 hcz1_1 hcz1_2; clear HS1 HR1 BK1 SZ1; have HS1 := HS1_; have HR1 := HR1_; have BK1 := BK1_; have SZ1 := SZ1_; clear HS1_ HR1_ BK1_ SZ1_; have hcz1_0 : W2.cell? ⟨gb1, 0, none⟩ = some (.int .i64 m0) := (blk_cell BK1.out 0).trans rfl; have hcz1_1 : W2.cell? ⟨gb1, 1, none⟩ = some (.slice A1 (cs).length c1) := (blk_cell BK1.out 1).trans rfl; have hcz1_2 : W2.cell? ⟨gb1, 2, none⟩ = some (.slice D1 (([] : List S59)).length d1) := (blk_cell BK1.out 2).trans rfl; clear HB; have HB := Aside0.mk hq1_; have HS2 := Aside0.mk hq3_; have HR2 := Aside0.mk hq4_; have BK2 := Aside0.mk hq5_; have LG2 := Aside0.mk hq6_; have SZ2 := Aside0.mk hq7_; clear hq1_ hq2_ hbX_ hq3_ hq4_ hq5_ hq6_ hq7_ hW2 HN2 HA2 hfa_0 hfa_1 hfa_2 hca_0 hca_1 hca_2; have hcz2_0 : W2.cell? ⟨gb2, 0, none⟩ = some (.int .i64 m0) := (blk_cell BK2.out 0).trans rfl; have hcz2_1 : W2.cell? ⟨gb2, 1, none⟩ = some (.slice A2 (cs).length c2) := (blk_cell BK2.out 1).trans rfl; have hcz2_2 : W2.cell? ⟨gb2, 2, none⟩ = some (.slice D2 (([] : List S59)).length d2) := (blk_cell BK2.out 2).trans rfl))
  go_wp2_with (go_at_call 10; refine (laws_eqMem.calls K m0 _ _ cs _ _ (([] : List S59)) m0 _ _ cs _ _ (([] : List S59)) true _ (Kd.S_reads' HS2.out).2.2 (Kd.S_reads' HS2.out).2.1 (Kd.R_reads' HR2.out).2.2 (Kd.R_reads' HR2.out).2.1 (Kd.S_reads' HS1.out).2.2 (Kd.S_reads' HS1.out).2.1 (Kd.R_reads' HR1.out).2.2 (Kd.R_reads' HR1.out).2.1 HEQ.out).mono ?_; rintro e we2 ⟨rfl, hb_⟩; have HS1_ := Aside0.mk (Kd.S_below HS1.out hb_); have HR1_ := Aside0.mk (Kd.R_below HR1.out hb_); have BK1_ := Aside0.mk ((Below.block hb_ _ (blk_lt BK1.out)).trans BK1.out); have SZ1_ := Aside0.mk (Nat.lt_of_lt_of_le SZ1.out (Below.size hb_)); have HS2_ := Aside0.mk (Kd.S_below HS2.out hb_); have HR2_ := Aside0.mk (Kd.R_below HR2.out hb_); have BK2_ := Aside0.mk ((Below.block hb_ _ (blk_lt BK2.out)).trans BK2.out); have SZ2_ := Aside0.mk (Nat.lt_of_lt_of_le SZ2.out (Below.size hb_)); have HB_ := Aside0.mk (below_step HB.out hb_); clear hcz1_0 hcz1_1 hcz1_2 hcz2_0 hcz2_1 hcz2_2; clear HS1 HR1 BK1 SZ1 HS2 HR2 BK2 SZ2 HB; have HS1 := HS1_; have HR1 := HR1_; have BK1 := BK1_; have SZ1 := SZ1_; have HS2 := HS2_; have HR2 := HR2_; have BK2 := BK2_; have SZ2 := SZ2_; have HB := HB_; clear HS1_ HR1_ BK1_ SZ1_ HS2_ HR2_ BK2_ SZ2_ HB_; have hcz1_0 : we2.cell? ⟨gb1, 0, none⟩ = some (.int .i64 m0) := (blk_cell BK1.out 0).trans rfl; have hcz1_1 : we2.cell? ⟨gb1, 1, none⟩ = some (.slice A1 (cs).length c1) := (blk_cell BK1.out 1).trans rfl; have hcz1_2 : we2.cell? ⟨gb1, 2, none⟩ = some (.slice D1 (([] : List S59)).length d1) := (blk_cell BK1.out 2).trans rfl; have hcz2_0 : we2.cell? ⟨gb2, 0, none⟩ = some (.int .i64 m0) := (blk_cell BK2.out 0).trans rfl; have hcz2_1 : we2.cell? ⟨gb2, 1, none⟩ = some (.slice A2 (cs).length c2) := (blk_cell BK2.out 1).trans rfl; have hcz2_2 : we2.cell? ⟨gb2, 2, none⟩ = some (.slice D2 (([] : List S59)).length d2) := (blk_cell BK2.out 2).trans rfl; clear hb_)
  go_wp2_with (go_at_call 11; refine (markMem_calls K (by have := hK.out; omega) m0 1 cs (([] : List S59)) (by decide) (by decide) (by have := LS.out; omega) LL.out LC.out (by decide) (fun k => W1.heap.size ≤ k ∧ k < gb2) (.slice A2 (cs).length c2) (.slice D2 (([] : List S59)).length d2) w _ HB.out HS2.out HR2.out).mono ?_; rintro e W4 ⟨rfl, hS_, hR_, hB_, hK_⟩; rw [HMV.out]; have HS1_ := Aside0.mk (Kd.S_kept HS1.out hK_ (fun k hk hp => by obtain ⟨a1_, a2_⟩ := hk; obtain ⟨b1_, b2_⟩ := hp; have h_ := OR_1_2.out; omega)); have HR1_ := Aside0.mk (Kd.R_kept HR1.out hK_ (fun k hk hp => by obtain ⟨a1_, a2_⟩ := hk; obtain ⟨b1_, b2_⟩ := hp; have h_ := OR_1_2.out; omega)); have BK1_ := Aside0.mk (blk_kept BK1.out hK_ (fun h_ => by obtain ⟨b1_, b2_⟩ := h_; have h_ := OR_1_2.out; have l_ := LG1.out; omega)); have SZ1_ := Aside0.mk (Nat.lt_of_lt_of_le SZ1.out hK_.1); have HS2_ := Aside0.mk (hS_); have HR2_ := Aside0.mk (hR_); have BK2_ := Aside0.mk (blk_kept BK2.out hK_ (fun h_ => absurd h_.2 (Nat.lt_irrefl _))); have SZ2_ := Aside0.mk (Nat.lt_of_lt_of_le SZ2.out hK_.1); have HB_ := Aside0.mk (hB_); clear hS_ hR_ hB_ hK_ hcz1_0 hcz1_1 hcz1_2 hcz2_0 hcz2_1 hcz2_2; clear HS1 HR1 BK1 SZ1 HS2 HR2 BK2 SZ2 HB; have HS1 := HS1_; have HR1 := HR1_; have BK1 := BK1_; have SZ1 := SZ1_; have HS2 := HS2_; have HR2 := HR2_; have BK2 := BK2_; have SZ2 := SZ2_; have HB := HB_; clear HS1_ HR1_ BK1_ SZ1_ HS2_ HR2_ BK2_ SZ2_ HB_; have hcz1_0 : W4.cell? ⟨gb1, 0, none⟩ = some (.int .i64 m0) := (blk_cell BK1.out 0).trans rfl; have hcz1_1 : W4.cell? ⟨gb1, 1, none⟩ = some (.slice A1 (cs).length c1) := (blk_cell BK1.out 1).trans rfl; have hcz1_2 : W4.cell? ⟨gb1, 2, none⟩ = some (.slice D1 (([] : List S59)).length d1) := (blk_cell BK1.out 2).trans rfl; have hcz2_0 : W4.cell? ⟨gb2, 0, none⟩ = some (.int .i64 m0) := (blk_cell BK2.out 0).trans rfl; have hcz2_1 : W4.cell? ⟨gb2, 1, none⟩ = some (.slice A2 (cs).length c2) := (blk_cell BK2.out 1).trans rfl; have hcz2_2 : W4.cell? ⟨gb2, 2, none⟩ = some (.slice D2 (([] : List S59)).length d2) := (blk_cell BK2.out 2).trans rfl)
  go_wp2_with (go_at_call 12; refine (heldMem_calls K m0 1 ((1 + (sumC cs : Int))) cs (([] : List S59).length) _ HS2.out HR2.out mv HHL.out).mono ?_; rintro e wh4 ⟨rfl, hb_⟩; have HS1_ := Aside0.mk (Kd.S_below HS1.out hb_); have HR1_ := Aside0.mk (Kd.R_below HR1.out hb_); have BK1_ := Aside0.mk ((Below.block hb_ _ (blk_lt BK1.out)).trans BK1.out); have SZ1_ := Aside0.mk (Nat.lt_of_lt_of_le SZ1.out (Below.size hb_)); have HS2_ := Aside0.mk (Kd.S_below HS2.out hb_); have HR2_ := Aside0.mk (Kd.R_below HR2.out hb_); have BK2_ := Aside0.mk ((Below.block hb_ _ (blk_lt BK2.out)).trans BK2.out); have SZ2_ := Aside0.mk (Nat.lt_of_lt_of_le SZ2.out (Below.size hb_)); have HB_ := Aside0.mk (below_step HB.out hb_); clear hcz1_0 hcz1_1 hcz1_2 hcz2_0 hcz2_1 hcz2_2; clear HS1 HR1 BK1 SZ1 HS2 HR2 BK2 SZ2 HB; have HS1 := HS1_; have HR1 := HR1_; have BK1 := BK1_; have SZ1 := SZ1_; have HS2 := HS2_; have HR2 := HR2_; have BK2 := BK2_; have SZ2 := SZ2_; have HB := HB_; clear HS1_ HR1_ BK1_ SZ1_ HS2_ HR2_ BK2_ SZ2_ HB_; have hcz1_0 : wh4.cell? ⟨gb1, 0, none⟩ = some (.int .i64 m0) := (blk_cell BK1.out 0).trans rfl; have hcz1_1 : wh4.cell? ⟨gb1, 1, none⟩ = some (.slice A1 (cs).length c1) := (blk_cell BK1.out 1).trans rfl; have hcz1_2 : wh4.cell? ⟨gb1, 2, none⟩ = some (.slice D1 (([] : List S59)).length d1) := (blk_cell BK1.out 2).trans rfl; have hcz2_0 : wh4.cell? ⟨gb2, 0, none⟩ = some (.int .i64 m0) := (blk_cell BK2.out 0).trans rfl; have hcz2_1 : wh4.cell? ⟨gb2, 1, none⟩ = some (.slice A2 (cs).length c2) := (blk_cell BK2.out 1).trans rfl; have hcz2_2 : wh4.cell? ⟨gb2, 2, none⟩ = some (.slice D2 (([] : List S59)).length d2) := (blk_cell BK2.out 2).trans rfl; clear hb_)
  go_wp2_with (first | (go_at_call 9; refine (impl_MemNew.calls K n size m0 cs [] _ HIM.out).mono ?_; rintro e w3 ⟨v3_1, v3_2, rfl, hS3, hR3, hb3⟩; obtain ⟨A3, c3, rfl⟩ := Kd.S_slice hS3; obtain ⟨D3, d3, rfl⟩ := Kd.R_slice hR3; have HN3 := Aside0.mk (And.intro hS3 (And.intro hR3 hb3)); clear hS3 hR3 hb3) | ((with_reducible refine gate_dst (N := 9) rfl ?_); refine box_event ?hg (N := 9) ?hd (cs := #[.int .i64 0, .slice none 0 0, .slice none 0 0]) (t := 25) ?hr ?_; (case hd => rfl); (case hg => rfl); (case hr => first | (go_simp; done) | (go_simp; rfl)); intro gb3 hg3 wA3 hbox3 hbA3; have HA3 := Aside0.mk (And.intro hg3 (And.intro hbox3 hbA3)); have hfa_0 := blk_frozen hbox3 0; have hfa_1 := blk_frozen hbox3 1; have hfa_2 := blk_frozen hbox3 2; have hca_0 : wA3.cell? ⟨gb3, 0, none⟩ = some (.int .i64 0) := (blk_cell hbox3 0).trans rfl; have hca_1 : wA3.cell? ⟨gb3, 1, none⟩ = some (.slice none 0 0) := (blk_cell hbox3 1).trans rfl; have hca_2 : wA3.cell? ⟨gb3, 2, none⟩ = some (.slice none 0 0) := (blk_cell hbox3 2).trans rfl; clear hg3 hbox3 hbA3) | ((with_reducible refine gate_store (t := 25) (p := 9) rfl ?_); refine store_event (t := 25) (p := 9) (v := ?vo_3) (w1 := ((wA3.setCell ⟨gb3, 0, none⟩ (.int .i64 m0)).setCell ⟨gb3, 1, none⟩ (.slice A3 (cs).length c3)).setCell ⟨gb3, 2, none⟩ (.slice D3 (([] : List S59)).length d3)) ?hg ?ho ?hn ?hr ?_; (case ho => rfl); (case hg => rfl); (case hn => rfl); (case hr => first | (go_simp; done) | (go_simp; rfl)); intro W6 hW3; obtain ⟨hq1_, hq2_, hq3_, hq4_, hq5_, hq6_, hq7_⟩ := mem_new (w := w) (W := wh4) (w1 := w3) (a := m0) HB.out HN3.out.2.2 HN3.out.1 HN3.out.2.1 HA3.out.1 HA3.out.2.1 HA3.out.2.2 hW3; have OR_1_3 := Aside0.mk (show gb1 < wh4.heap.size from SZ1.out); have OR_2_3 := Aside0.mk (show gb2 < wh4.heap.size from SZ2.out); have hbX_ := hq2_; have HS1_ := Aside0.mk (Kd.S_below HS1.out hbX_); have HR1_ := Aside0.mk (Kd.R_below HR1.out hbX_); have BK1_ := Aside0.mk ((Below.block hbX_ _ (blk_lt BK1.out)).trans BK1.out); have SZ1_ := Aside0.mk (Nat.lt_of_lt_of_le SZ1.out (Below.size hbX_)); have HS2_ := Aside0.mk (Kd.S_below HS2.out hbX_); have HR2_ := Aside0.mk (Kd.R_below HR2.out hbX_); have BK2_ := Aside0.mk ((Below.block hbX_ _ (blk_lt BK2.out)).trans BK2.out); have SZ2_ := Aside0.mk (Nat.lt_of_lt_of_le SZ2.out (Below.size hbX_)); clear hcz1_0 hcz1_1 hcz1_2 hcz2_0 hcz2_1 hcz2_2; clear HS1 HR1 BK1 SZ1 HS2 HR2 BK2 SZ2; have HS1 := HS1_; have HR1 := HR1_; have BK1 := BK1_; have SZ1 := SZ1_; have HS2 := HS2_; have HR2 := HR2_; have BK2 := BK2_; have SZ2 := SZ2_; clear HS1_ HR1_ BK1_ SZ1_ HS2_ HR2_ BK2_ SZ2_; have hcz1_0 : W6.cell? ⟨gb1, 0, none⟩ = some (.int .i64 m0) := (blk_cell BK1.out 0).trans rfl; have hcz1_1 : W6.cell? ⟨gb1, 1, none⟩ = some (.slice A1 (cs).length c1) := (blk_cell BK1.out 1).trans rfl; have hcz1_2 : W6.cell? ⟨gb1, 2, none⟩ = some (.slice D1 (([] : List S59)).length d1) := (blk_cell BK1.out 2).trans rfl; have hcz2_0 : W6.cell? ⟨gb2, 0, none⟩ = some (.int .i64 m0) := (blk_cell BK2.out 0).trans rfl; have hcz2_1 : W6.cell? ⟨gb2, 1, none⟩ = some (.slice A2 (cs).length c2) := (blk_cell BK2.out 1).trans rfl; have hcz2_2 : W6.cell? ⟨gb2, 2, none⟩ = some (.slice D2 (([] : List S59)).length d2) := (blk_cell BK2.out 2).trans rfl; clear HB; have HB := Aside0.mk hq1_; have HS3 := Aside0.mk hq3_; have HR3 := Aside0.mk hq4_; have BK3 := Aside0.mk hq5_; have LG3 := Aside0.mk hq6_; have SZ3 := Aside0.mk hq7_; clear hq1_ hq2_ hbX_ hq3_ hq4_ hq5_ hq6_ hq7_ hW3 HN3 HA3 hfa_0 hfa_1 hfa_2 hca_0 hca_1 hca_2; have hcz3_0 : W6.cell? ⟨gb3, 0, none⟩ = some (.int .i64 m0) := (blk_cell BK3.out 0).trans rfl; have hcz3_1 : W6.cell? ⟨gb3, 1, none⟩ = some (.slice A3 (cs).length c3) := (blk_cell BK3.out 1).trans rfl; have hcz3_2 : W6.cell? ⟨gb3, 2, none⟩ = some (.slice D3 (([] : List S59)).length d3) := (blk_cell BK3.out 2).trans rfl))
  go_wp2_with (go_at_call 10; refine (laws_eqMem.calls K m0 _ _ cs _ _ (([] : List S59)) m0 _ _ cs _ _ (([] : List S59)) true _ (Kd.S_reads' HS3.out).2.2 (Kd.S_reads' HS3.out).2.1 (Kd.R_reads' HR3.out).2.2 (Kd.R_reads' HR3.out).2.1 (Kd.S_reads' HS1.out).2.2 (Kd.S_reads' HS1.out).2.1 (Kd.R_reads' HR1.out).2.2 (Kd.R_reads' HR1.out).2.1 HEQ.out).mono ?_; rintro e we6 ⟨rfl, hb_⟩; have HS1_ := Aside0.mk (Kd.S_below HS1.out hb_); have HR1_ := Aside0.mk (Kd.R_below HR1.out hb_); have BK1_ := Aside0.mk ((Below.block hb_ _ (blk_lt BK1.out)).trans BK1.out); have SZ1_ := Aside0.mk (Nat.lt_of_lt_of_le SZ1.out (Below.size hb_)); have HS2_ := Aside0.mk (Kd.S_below HS2.out hb_); have HR2_ := Aside0.mk (Kd.R_below HR2.out hb_); have BK2_ := Aside0.mk ((Below.block hb_ _ (blk_lt BK2.out)).trans BK2.out); have SZ2_ := Aside0.mk (Nat.lt_of_lt_of_le SZ2.out (Below.size hb_)); have HS3_ := Aside0.mk (Kd.S_below HS3.out hb_); have HR3_ := Aside0.mk (Kd.R_below HR3.out hb_); have BK3_ := Aside0.mk ((Below.block hb_ _ (blk_lt BK3.out)).trans BK3.out); have SZ3_ := Aside0.mk (Nat.lt_of_lt_of_le SZ3.out (Below.size hb_)); have HB_ := Aside0.mk (below_step HB.out hb_); clear hcz1_0 hcz1_1 hcz1_2 hcz2_0 hcz2_1 hcz2_2 hcz3_0 hcz3_1 hcz3_2; clear HS1 HR1 BK1 SZ1 HS2 HR2 BK2 SZ2 HS3 HR3 BK3 SZ3 HB; have HS1 := HS1_; have HR1 := HR1_; have BK1 := BK1_; have SZ1 := SZ1_; have HS2 := HS2_; have HR2 := HR2_; have BK2 := BK2_; have SZ2 := SZ2_; have HS3 := HS3_; have HR3 := HR3_; have BK3 := BK3_; have SZ3 := SZ3_; have HB := HB_; clear HS1_ HR1_ BK1_ SZ1_ HS2_ HR2_ BK2_ SZ2_ HS3_ HR3_ BK3_ SZ3_ HB_; have hcz1_0 : we6.cell? ⟨gb1, 0, none⟩ = some (.int .i64 m0) := (blk_cell BK1.out 0).trans rfl; have hcz1_1 : we6.cell? ⟨gb1, 1, none⟩ = some (.slice A1 (cs).length c1) := (blk_cell BK1.out 1).trans rfl; have hcz1_2 : we6.cell? ⟨gb1, 2, none⟩ = some (.slice D1 (([] : List S59)).length d1) := (blk_cell BK1.out 2).trans rfl; have hcz2_0 : we6.cell? ⟨gb2, 0, none⟩ = some (.int .i64 m0) := (blk_cell BK2.out 0).trans rfl; have hcz2_1 : we6.cell? ⟨gb2, 1, none⟩ = some (.slice A2 (cs).length c2) := (blk_cell BK2.out 1).trans rfl; have hcz2_2 : we6.cell? ⟨gb2, 2, none⟩ = some (.slice D2 (([] : List S59)).length d2) := (blk_cell BK2.out 2).trans rfl; have hcz3_0 : we6.cell? ⟨gb3, 0, none⟩ = some (.int .i64 m0) := (blk_cell BK3.out 0).trans rfl; have hcz3_1 : we6.cell? ⟨gb3, 1, none⟩ = some (.slice A3 (cs).length c3) := (blk_cell BK3.out 1).trans rfl; have hcz3_2 : we6.cell? ⟨gb3, 2, none⟩ = some (.slice D3 (([] : List S59)).length d3) := (blk_cell BK3.out 2).trans rfl; clear hb_)
  go_wp2_with (go_at_call 12; refine (heldMem_calls K m0 1 ((1 + (sumC cs : Int))) cs (([] : List S59).length) _ HS2.out HR2.out mv HHL.out).mono ?_; rintro e wh7 ⟨rfl, hb_⟩; have HS1_ := Aside0.mk (Kd.S_below HS1.out hb_); have HR1_ := Aside0.mk (Kd.R_below HR1.out hb_); have BK1_ := Aside0.mk ((Below.block hb_ _ (blk_lt BK1.out)).trans BK1.out); have SZ1_ := Aside0.mk (Nat.lt_of_lt_of_le SZ1.out (Below.size hb_)); have HS2_ := Aside0.mk (Kd.S_below HS2.out hb_); have HR2_ := Aside0.mk (Kd.R_below HR2.out hb_); have BK2_ := Aside0.mk ((Below.block hb_ _ (blk_lt BK2.out)).trans BK2.out); have SZ2_ := Aside0.mk (Nat.lt_of_lt_of_le SZ2.out (Below.size hb_)); have HS3_ := Aside0.mk (Kd.S_below HS3.out hb_); have HR3_ := Aside0.mk (Kd.R_below HR3.out hb_); have BK3_ := Aside0.mk ((Below.block hb_ _ (blk_lt BK3.out)).trans BK3.out); have SZ3_ := Aside0.mk (Nat.lt_of_lt_of_le SZ3.out (Below.size hb_)); have HB_ := Aside0.mk (below_step HB.out hb_); clear hcz1_0 hcz1_1 hcz1_2 hcz2_0 hcz2_1 hcz2_2 hcz3_0 hcz3_1 hcz3_2; clear HS1 HR1 BK1 SZ1 HS2 HR2 BK2 SZ2 HS3 HR3 BK3 SZ3 HB; have HS1 := HS1_; have HR1 := HR1_; have BK1 := BK1_; have SZ1 := SZ1_; have HS2 := HS2_; have HR2 := HR2_; have BK2 := BK2_; have SZ2 := SZ2_; have HS3 := HS3_; have HR3 := HR3_; have BK3 := BK3_; have SZ3 := SZ3_; have HB := HB_; clear HS1_ HR1_ BK1_ SZ1_ HS2_ HR2_ BK2_ SZ2_ HS3_ HR3_ BK3_ SZ3_ HB_; have hcz1_0 : wh7.cell? ⟨gb1, 0, none⟩ = some (.int .i64 m0) := (blk_cell BK1.out 0).trans rfl; have hcz1_1 : wh7.cell? ⟨gb1, 1, none⟩ = some (.slice A1 (cs).length c1) := (blk_cell BK1.out 1).trans rfl; have hcz1_2 : wh7.cell? ⟨gb1, 2, none⟩ = some (.slice D1 (([] : List S59)).length d1) := (blk_cell BK1.out 2).trans rfl; have hcz2_0 : wh7.cell? ⟨gb2, 0, none⟩ = some (.int .i64 m0) := (blk_cell BK2.out 0).trans rfl; have hcz2_1 : wh7.cell? ⟨gb2, 1, none⟩ = some (.slice A2 (cs).length c2) := (blk_cell BK2.out 1).trans rfl; have hcz2_2 : wh7.cell? ⟨gb2, 2, none⟩ = some (.slice D2 (([] : List S59)).length d2) := (blk_cell BK2.out 2).trans rfl; have hcz3_0 : wh7.cell? ⟨gb3, 0, none⟩ = some (.int .i64 m0) := (blk_cell BK3.out 0).trans rfl; have hcz3_1 : wh7.cell? ⟨gb3, 1, none⟩ = some (.slice A3 (cs).length c3) := (blk_cell BK3.out 1).trans rfl; have hcz3_2 : wh7.cell? ⟨gb3, 2, none⟩ = some (.slice D3 (([] : List S59)).length d3) := (blk_cell BK3.out 2).trans rfl; clear hb_)
  go_ret
  exact ⟨by first | rfl | (simp; done) | (simp [*]; done), HB.out⟩

end Go.Proofs.Ytoceiaaigiflpaa.Pure
