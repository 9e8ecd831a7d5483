/- The laws of starting again; no program in sight. The law PeerRestart. -/
import Derived.Test.YtfgkkflbpfocjaaZ19
import Derived.Test.YtfgkkflbpfocjaaZ3
import Derived.Test.YtfgkkflbpfocjaaZ17
import Derived.Test.YtfgkkflbpfocjaaZ12
namespace Go.Proofs.Ytfgkkflbpfocjaa
set_option linter.unusedVariables false
set_option linter.unusedSimpArgs false

/-- a peer behind a restart -/
def rsR (p : Pr) : Pr := ⟨p.node, p.theirs, false, heldP p, zSend, zRec⟩
structure RsI (p q : Pr) : Prop where
  wf : WfP q
  ok : chkP q = 0
  node : q.node = p.node
  th : q.theirs = p.theirs
  held : heldP q = heldP p
theorem heldP_made {p : Pr} (h : MadeP p) : 0 ≤ heldP p ∧ heldP p ≤ 1499 := by
  obtain ⟨_, _, h3, _⟩ := chkP_ok h.ok
  have := resv_b (okR_of h3) h.wf.r.fl.1 h.wf.r.r.1
  have := h.rg
  have := h.old
  unfold heldP
  omega
theorem rsI_self {p : Pr} (h : MadeP p) : RsI p p := ⟨h.wf, h.ok, rfl, rfl, rfl⟩
theorem heldP_rsR (p : Pr) : heldP (rsR p) = heldP p := by
  show heldP p + resv zRec = heldP p
  rw [resv_z]; omega
theorem rsI_R {p : Pr} (h : MadeP p) : RsI p (rsR p) := by
  have hh := heldP_made h
  have ht := h.th
  have hn := h.node
  refine ⟨⟨by show 0 ≤ p.theirs ∧ p.theirs ≤ _; omega, by show 0 ≤ heldP p ∧ heldP p ≤ _; omega, wf_z, wfR_z⟩, chkP_intro ?_ chk_zS chkR_zR (fun e => ?_), rfl, rfl, heldP_rsR p⟩
  · show ¬ (p.node < 1 ∨ 16 < p.node ∨ 1099511627776 < p.theirs ∨ 1125899906842624 < heldP p)
    omega
  · have e : p.theirs = 0 := e
    have hp := h.z e
    refine ⟨rfl, ?_, rfl, rfl, rfl, rfl, rfl, rfl, rfl, rfl, rfl⟩
    show heldP p = 0
    rw [hp]
    show 0 + resv zRec = 0
    rw [resv_z]; rfl
theorem rsI_next {p q : Pr} (h : MadeP p) (hq : RsI p q) : rstE q = (rsR p, 0) := by
  have hh := heldP_made h
  unfold rstE
  rw [if_neg (by rw [hq.ok]; exact fun c => c rfl), hq.held, if_neg (by omega), hq.node, hq.th]
  rfl
theorem hlE_rs {p q : Pr} (hq : RsI p q) : hlE q = heldP p := by
  unfold hlE
  rw [if_pos hq.ok, hq.held]
theorem held_z {p : Pr} (h : MadeP p) (e : p.theirs = 0) : heldP p = 0 := by
  rw [h.z e]
  show 0 + resv zRec = 0
  rw [resv_z]; rfl
/-- the frame that the law sends -/
def rsQ (p : Pr) : Pr := ⟨p.node, p.theirs, true, 0, zSend, zRec⟩
theorem rs_met {p : Pr} (h : MadeP p) (h0 : 0 < p.theirs) : mtV (rsR p) 4 (grt p.theirs 4) = (rsQ p, 3, false) ∧ metE (rsR p) 4 (grt p.theirs 4) = 0 ∧ WfF (grt p.theirs 4) := by
  have ht := h.th
  have q := rsI_R h
  have e : metE (rsR p) 4 (grt p.theirs 4) = 0 := metE_zero q.ok ⟨by decide, by decide⟩ (frE_grt (by omega) (by omega) (by decide) (by decide)) (by show (2 : Int) = p.node; rw [h.node])
  refine ⟨?_, e, wfF_grt _ _ (by omega) (by decide)⟩
  rw [mtV, if_pos e]
  unfold met
  rw [if_neg (by show ¬ p.theirs < p.theirs; omega), if_neg (by show ¬ (4 : Int) ≠ 4; decide)]
  have hl : lrn (rsR p) (grt p.theirs 4) = rsR p := if_neg (by show ¬ p.theirs < p.theirs; omega)
  rw [hl, decide_eq_false (by show ¬ p.theirs < p.theirs; omega)]
  rfl
theorem rsQ_ok {p : Pr} (h : MadeP p) (h0 : 0 < p.theirs) : WfP (rsQ p) ∧ chkP (rsQ p) = 0 ∧ hlE (rsQ p) = 0 := by
  have ht := h.th
  have hn := h.node
  have k : chkP (rsQ p) = 0 := chkP_intro (by
    show ¬ (p.node < 1 ∨ 16 < p.node ∨ 1099511627776 < p.theirs ∨ 1125899906842624 < (0 : Int))
    omega) chk_zS chkR_zR (fun e => by
    have e : p.theirs = 0 := e
    omega)
  refine ⟨⟨by show 0 ≤ p.theirs ∧ p.theirs ≤ _; omega, by show (0 : Int) ≤ 0 ∧ (0 : Int) ≤ _; decide, wf_z, wfR_z⟩, k, ?_⟩
  unfold hlE
  rw [if_pos k]
  show 0 + resv zRec = 0
  rw [resv_z]; rfl
end Go.Proofs.Ytfgkkflbpfocjaa

namespace Go.Proofs.Ytfgkkflbpfocjaa
open Go.RowKit
set_option linter.unusedVariables false
set_option linter.unusedSimpArgs false

/-- the loop's state -/
def RsMid (w : World) (p : Pr) (m : Int) (g : Nat) (s9 s10 : Value) (wr : World) : Prop := ∃ (k : Int) (q : Pr) (A5 : Option Addr) (a5 : Nat) (B5 : Option Addr) (b5 : Nat) (C5 : Option Addr) (c5 : Nat), s9 = .int .i64 0 ∧ s10 = .int .i64 k ∧ (-1 ≤ k ∧ k ≤ m) ∧ RsI p q ∧ (k < m → q = rsR p) ∧
  Blk wr g 31 #[.int .i64 q.node, .int .u64 q.theirs, .bool q.sure, .int .u64 q.old, .int .u64 q.s.g, .int .u64 q.s.n, .int .u64 q.s.r, .slice A5 q.s.sl.length a5, .int .u64 q.r.g, .int .u64 q.r.r, .int .u64 q.r.fl, .slice B5 q.r.tk.length b5, .slice C5 q.r.kp.length c5] ∧ PrAt wr (.agg #[.int .i64 q.node, .int .u64 q.theirs, .bool q.sure, .int .u64 q.old, .int .u64 q.s.g, .int .u64 q.s.n, .int .u64 q.s.r, .slice A5 q.s.sl.length a5, .int .u64 q.r.g, .int .u64 q.r.r, .int .u64 q.r.fl, .slice B5 q.r.tk.length b5, .slice C5 q.r.kp.length c5]) q ∧ Below w.heap.size w wr

theorem prB_of {B : Nat} {w w' : World} {V : Value} {p : Pr} (h : PrAt w V p) (h1 : p.s.sl = []) (h2 : p.r.tk = []) (h3 : p.r.kp = []) : PrB B w' V p := by
  obtain ⟨vs, vt, vk, rfl, r1, r2, r3⟩ := h
  rw [h1] at r1
  rw [h2] at r2
  rw [h3] at r3
  obtain ⟨A, c, rfl, a1, a2, a3, _⟩ := r1
  obtain ⟨A', c', rfl, b1, b2, b3, _⟩ := r2
  obtain ⟨A'', c'', rfl, d1, d2, d3, _⟩ := r3
  refine ⟨A, c, A', c', A'', c'', ?_, ?_, ?_, ?_⟩
  · rw [h1, h2, h3]
  · rw [h1]; exact ⟨A, c, rfl, a1, a2, a3, fun h => absurd h (by simp)⟩
  · rw [h2]; exact ⟨A', c', rfl, b1, b2, b3, fun h => absurd h (by simp)⟩
  · rw [h3]; exact ⟨A'', c'', rfl, d1, d2, d3, fun h => absurd h (by simp)⟩

set_option maxRecDepth 100000 in
set_option maxHeartbeats 8000000 in
theorem PeerRestart_t (xs : List Int) (V0 : Value) (theirs times : Int) (w : World) (hS : SlAt w 1 V0 xs.length (ints xs)) :
    Calls Try.prog 8 #[V0, .int .i64 theirs, .int .i64 times] w (RetB true w) := by
  have HS' := Lib.hid hS
  clear hS
  go_enter Try.func8, Try.ntmps8
  have hB := Below.refl w.heap.size w
  go_wp2_with fail
  refine (made_any xs V0 theirs w HS'.out).mono ?_
  rintro e v0 ⟨p, V1, hp, rfl, hV1, hb⟩
  replace hB := bnext hB hb
  clear hb
  have hp' := Lib.hid hp
  clear hp
  obtain ⟨A1, a1, B1, b1, C1, c1, rfl⟩ := hV1.frm
  have HGL := Lib.hid hB.size
  have RX : PrAt (v0.alloc (.cells #[.int .i64 p.node, .int .u64 p.theirs, .bool p.sure, .int .u64 p.old, .int .u64 p.s.g, .int .u64 p.s.n, .int .u64 p.s.r, .slice A1 p.s.sl.length a1, .int .u64 p.r.g, .int .u64 p.r.r, .int .u64 p.r.fl, .slice B1 p.r.tk.length b1, .slice C1 p.r.kp.length c1] 31)) (.agg #[.int .i64 p.node, .int .u64 p.theirs, .bool p.sure, .int .u64 p.old, .int .u64 p.s.g, .int .u64 p.s.n, .int .u64 p.s.r, .slice A1 p.s.sl.length a1, .int .u64 p.r.g, .int .u64 p.r.r, .int .u64 p.r.fl, .slice B1 p.r.tk.length b1, .slice C1 p.r.kp.length c1]) p := (hV1.at).below (bal (Below.refl _ _) _)
  go_upto_region 2 with (go_big_may; first | (refine wpList_alloc_z (by rfl) 31 (by rfl) _ rfl #[.int .i64 0, .int .u64 0, .bool false, .int .u64 0, .int .u64 0, .int .u64 0, .int .u64 0, .slice none 0 0, .int .u64 0, .int .u64 0, .int .u64 0, .slice none 0 0, .slice none 0 0] (fun w => by kernel_rfl) ?_) | (refine wpList_store_new (by rfl) 31 _ _ (by rfl) v0 #[.int .i64 0, .int .u64 0, .bool false, .int .u64 0, .int .u64 0, .int .u64 0, .int .u64 0, .slice none 0 0, .int .u64 0, .int .u64 0, .int .u64 0, .slice none 0 0, .slice none 0 0] #[.int .i64 p.node, .int .u64 p.theirs, .bool p.sure, .int .u64 p.old, .int .u64 p.s.g, .int .u64 p.s.n, .int .u64 p.s.r, .slice A1 p.s.sl.length a1, .int .u64 p.r.g, .int .u64 p.r.r, .int .u64 p.r.fl, .slice B1 p.r.tk.length b1, .slice C1 p.r.kp.length c1] rfl (by rfl) (by rfl) (by kernel_rfl) rfl (by kernel_rfl) ?_))
  skip
  have k7 := Blk.new v0 31 #[.int .i64 p.node, .int .u64 p.theirs, .bool p.sure, .int .u64 p.old, .int .u64 p.s.g, .int .u64 p.s.n, .int .u64 p.s.r, .slice A1 p.s.sl.length a1, .int .u64 p.r.g, .int .u64 p.r.r, .int .u64 p.r.fl, .slice B1 p.r.tk.length b1, .slice C1 p.r.kp.length c1]
  replace hB := bal hB (.cells #[.int .i64 p.node, .int .u64 p.theirs, .bool p.sure, .int .u64 p.old, .int .u64 p.s.g, .int .u64 p.s.n, .int .u64 p.s.r, .slice A1 p.s.sl.length a1, .int .u64 p.r.g, .int .u64 p.r.r, .int .u64 p.r.fl, .slice B1 p.r.tk.length b1, .slice C1 p.r.kp.length c1] 31)
  obtain ⟨g7, hg⟩ : ∃ g7, v0.heap.size = g7 := ⟨_, rfl⟩
  rw [hg] at k7 HGL ⊢
  clear hg
  generalize v0.alloc (.cells #[.int .i64 p.node, .int .u64 p.theirs, .bool p.sure, .int .u64 p.old, .int .u64 p.s.g, .int .u64 p.s.n, .int .u64 p.s.r, .slice A1 p.s.sl.length a1, .int .u64 p.r.g, .int .u64 p.r.r, .int .u64 p.r.fl, .slice B1 p.r.tk.length b1, .slice C1 p.r.kp.length c1] 31) = v1 at k7 hB RX ⊢
  clear hV1
  have HD' : Hid (∀ V w', PrAt w' V p → Calls Try.prog 26 #[V] w' (Ret2 .u64 .i64 (heldP p) 0 w')) := Lib.hid (fun V w' h => by
    have := pHeld_any p hp'.out.wf V w' h
    rwa [hlE_rs (rsI_self hp'.out), hp'.out.ok] at this)
  have hl7 := k7.lt
  go_wp2_with (first | (refine wpList_ldrow (by rfl) 31 _ (by rfl) g7 (by rfl) 31 #[.int .i64 p.node, .int .u64 p.theirs, .bool p.sure, .int .u64 p.old, .int .u64 p.s.g, .int .u64 p.s.n, .int .u64 p.s.r, .slice A1 p.s.sl.length a1, .int .u64 p.r.g, .int .u64 p.r.r, .int .u64 p.r.fl, .slice B1 p.r.tk.length b1, .slice C1 p.r.kp.length c1] (0, 0) _ k7 Try.underlying31 (by rfl) (by kernel_rfl) ?_))
  clear hl7
  refine (HD'.out _ _ RX).mono ?_
  rintro e v2 ⟨rfl, hb⟩
  replace k7 := k7.below hb
  replace RX := RX.below hb
  have hB2 := bnext hB hb
  clear hB hb
  have hB := hB2
  clear hB2
  go_wp2_with fail
  refine (Mod_rng _ _ _ (by decide) (by decide)).mono ?_
  rintro e wq ⟨m, ⟨hm0, hm1⟩, rfl, rfl⟩
  have hh := heldP_made hp'.out
  have hpt := hp'.out.th
  go_wp2_with fail
  go_loopw [9, 10] (fun s9 s10 wr => RsMid w p m g7 s9 s10 wr) (fun _ s10 _ => (intOf s10 + 1).toNat)
  case atStart => exact ⟨m, p, A1, a1, B1, b1, C1, c1, rfl, rfl, by omega, rsI_self hp'.out, fun h => absurd h (Int.lt_irrefl _), k7, RX, hB⟩
  case round =>
  clear k7 RX hB
  obtain ⟨k, q, A5, a5, B5, b5, C5, c5, rfl, rfl, ⟨hk0, hk1⟩, hq, hqR, k7, RX, hB⟩ := hrel
  have hq' := Lib.hid hq
  have hqR' := Lib.hid hqR
  clear hq hqR
  have hl7 := k7.lt
  by_cases hk : 0 ≤ k
  · skip
    have RC : Hid (∀ V w', PrAt w' V q → Calls Try.prog 27 #[V] w' (RetPE (rsR p) 0 w')) := Lib.hid (fun V w' h => by
      have := Restart_any q hq'.out.wf V w' h
      rwa [rsI_next hp'.out hq'.out] at this)
    go_wp2_with (refine wpList_ldrow (by rfl) 31 _ (by rfl) g7 (by rfl) 31 #[.int .i64 q.node, .int .u64 q.theirs, .bool q.sure, .int .u64 q.old, .int .u64 q.s.g, .int .u64 q.s.n, .int .u64 q.s.r, .slice A5 q.s.sl.length a5, .int .u64 q.r.g, .int .u64 q.r.r, .int .u64 q.r.fl, .slice B5 q.r.tk.length b5, .slice C5 q.r.kp.length c5] (0, 0) _ k7 Try.underlying31 (by rfl) (by kernel_rfl) ?_)
    refine (RC.out _ _ RX).mono ?_
    rintro e w2 ⟨V6, rfl, hV6, hb⟩
    replace k7 := k7.below hb
    replace hB := bnext hB hb
    have hV6' := hV6
    obtain ⟨A6, a6, B6, b6, C6, c6, rfl⟩ := hV6.frm
    dsimp only [rsR, zSend, zRec, List.length_nil] at hV6' ⊢
    clear hb hl7 hV6 RX
    have hl7 := k7.lt
    go_wp2_with (refine wpList_store_mid (by rfl) 31 _ _ (by rfl) g7 0 #[.int .i64 p.node, .int .u64 p.theirs, .bool false, .int .u64 (heldP p), .int .u64 0, .int .u64 0, .int .u64 0, .slice A6 0 a6, .int .u64 0, .int .u64 0, .int .u64 0, .slice B6 0 b6, .slice C6 0 c6] (by rfl) (by rfl) (by exact Blk.there k7 0 _ (Nat.le_refl 13)) (by kernel_rfl) (by kernel_rfl) ?_)
    go_roundw
    case rel => exact ⟨k - 1, rsR p, A6, a6, B6, b6, C6, c6, rfl, by go_num, by omega, rsI_R hp'.out, fun _ => rfl, k7.setAll rfl, (PrB.anyw hV6' rfl rfl rfl).at, below_setCells HGL.out _ 0 hB⟩
    case measure => simp [intOf]; omega
  · skip
    obtain rfl := hqR'.out (by omega)
    clear hqR'
    dsimp only [rsR, zSend, zRec, List.length_nil] at k7 RX
    have RR : PrB 0 wr (.agg #[.int .i64 p.node, .int .u64 p.theirs, .bool false, .int .u64 (heldP p), .int .u64 0, .int .u64 0, .int .u64 0, .slice A5 0 a5, .int .u64 0, .int .u64 0, .int .u64 0, .slice B5 0 b5, .slice C5 0 c5]) (rsR p) := prB_of RX rfl rfl rfl
    clear RX hl7
    have hl7 := k7.lt
    go_wp2_with (first | (refine wpList_ldrow (by rfl) 31 _ (by rfl) g7 (by rfl) 31 #[.int .i64 p.node, .int .u64 p.theirs, .bool false, .int .u64 (heldP p), .int .u64 0, .int .u64 0, .int .u64 0, .slice A5 0 a5, .int .u64 0, .int .u64 0, .int .u64 0, .slice B5 0 b5, .slice C5 0 c5] (0, 0) _ k7 Try.underlying31 (by rfl) (by kernel_rfl) ?_))
    clear hl7
    refine (held_true (rsR p) (rsI_R hp'.out).wf (heldP p) (hlE_rs (rsI_R hp'.out)) (rsI_R hp'.out).ok _ _ RR.at).mono ?_
    rintro e v11 ⟨rfl, hb⟩
    replace k7 := k7.below hb
    replace RR := RR.below hb
    have hB2 := bnext hB hb
    clear hB hb
    have hB := hB2
    clear hB2
    have hk7 := k7
    obtain ⟨x0, x1, x2, x3, x4, x5, x6, x7, x8, x9, x10, x11, x12⟩ := k7.c13
    have hl7 := k7.lt
    by_cases ht : p.theirs = 0
    · skip
      have hz := held_z hp'.out ht
      rw [ht] at x1
      have hz1 : (heldP p == 0) = true := by rw [hz]; rfl
      go_wp2_with fail
      refine (awake_any _).mono ?_
      rintro e w9 ⟨rfl, hb⟩
      go_wp2_with fail
      go_ret
      exact ⟨rfl, bnext hB hb⟩
    · skip
      have hp0 : 0 < p.theirs := by omega
      have hpe : (p.theirs == 0) = false := beq_eq_false_iff_ne.2 ht
      have MC : Hid (∀ V w', PrAt w' V (rsR p) → Calls Try.prog 18 #[V, .int .u64 4, (grt p.theirs 4).val] w' (RetMet (rsQ p, 3, false) 0 w')) := Lib.hid (fun V w' h => by
        have q := rs_met hp'.out hp0
        have := Meet_any (rsR p) (rsI_R hp'.out).wf 4 (grt p.theirs 4) q.2.2 V w' h
        rwa [q.1, q.2.1] at this)
      go_upto_region 11 with fail
      clear x0 x1 x2 x3 x4 x5 x6 x7 x8 x9 x10 x11 x12 hl7 hk7
      go_cut [11, 12, 13, 14] (fun s11 s12 s13 s14 wx => s12 = .int .i64 3 ∧ s13 = .bool false ∧ s14 = .int .i64 0 ∧ ∃ g A7 a7 B7 b7 C7 c7, s11 = .pointer (some ⟨g, 0, none⟩) ∧ Blk wx g 31 #[.int .i64 p.node, .int .u64 p.theirs, .bool true, .int .u64 0, .int .u64 0, .int .u64 0, .int .u64 0, .slice A7 0 a7, .int .u64 0, .int .u64 0, .int .u64 0, .slice B7 0 b7, .slice C7 0 c7] ∧ PrB 0 wx (.agg #[.int .i64 p.node, .int .u64 p.theirs, .bool true, .int .u64 0, .int .u64 0, .int .u64 0, .int .u64 0, .slice A7 0 a7, .int .u64 0, .int .u64 0, .int .u64 0, .slice B7 0 b7, .slice C7 0 c7]) (rsQ p) ∧ Below w.heap.size w wx)
      case first =>
        have k2 : Blk v11.drew g7 31 #[.int .i64 p.node, .int .u64 p.theirs, .bool false, .int .u64 (heldP p), .int .u64 0, .int .u64 0, .int .u64 0, .slice A5 0 a5, .int .u64 0, .int .u64 0, .int .u64 0, .slice B5 0 b5, .slice C5 0 c5] := k7
        have r2 : PrB 0 v11.drew (.agg #[.int .i64 p.node, .int .u64 p.theirs, .bool false, .int .u64 (heldP p), .int .u64 0, .int .u64 0, .int .u64 0, .slice A5 0 a5, .int .u64 0, .int .u64 0, .int .u64 0, .slice B5 0 b5, .slice C5 0 c5]) (rsR p) := RR.anyw rfl rfl rfl
        have hB3 : Below w.heap.size w v11.drew := hB.drew
        refine wp_region_held_drew (S := fun wx => Below w.heap.size w wx ∧ Blk wx g7 31 #[.int .i64 p.node, .int .u64 p.theirs, .bool false, .int .u64 (heldP p), .int .u64 0, .int .u64 0, .int .u64 0, .slice A5 0 a5, .int .u64 0, .int .u64 0, .int .u64 0, .slice B5 0 b5, .slice C5 0 c5] ∧ PrB 0 wx (.agg #[.int .i64 p.node, .int .u64 p.theirs, .bool false, .int .u64 (heldP p), .int .u64 0, .int .u64 0, .int .u64 0, .slice A5 0 a5, .int .u64 0, .int .u64 0, .int .u64 0, .slice B5 0 b5, .slice C5 0 c5]) (rsR p)) (by kernel_rfl) ⟨hB3, k2, r2⟩ (fun hH => ?_)
        generalize v11.drew = x0 at hH ⊢
        clear k7 RR hB k2 r2 hB3
        refine wpAnyH_take (i := 0) rfl (by kernel_rfl) (by kernel_rfl) (by kernel_rfl) (fun _ _ _ h => h) (yieldsIf_row (g7) 31 #[.int .i64 p.node, .int .u64 p.theirs, .bool false, .int .u64 (heldP p), .int .u64 0, .int .u64 0, .int .u64 0, .slice A5 0 a5, .int .u64 0, .int .u64 0, .int .u64 0, .slice B5 0 b5, .slice C5 0 c5] 31 _ _ rfl rfl rfl (fun w h => h.2.1) Try.underlying31 rfl (by kernel_rfl)) hH ?_
        try simp only [List.getElem_toArray, List.getElem_cons_succ, List.getElem_cons_zero, Act.put, List.setIfInBounds_toArray, List.set_cons_zero, List.set_cons_succ]
        refine wpAnyH_take (i := 1) rfl (by kernel_rfl) (by kernel_rfl) (by kernel_rfl) (fun _ _ _ h => h) (yieldsIf_cell (.pointer (some ⟨g7, 1, none⟩)) rfl (fun w h => by go_simp)) hH ?_
        try simp only [List.getElem_toArray, List.getElem_cons_succ, List.getElem_cons_zero, Act.put, List.setIfInBounds_toArray, List.set_cons_zero, List.set_cons_succ]
        refine wpAnyH_take (i := 2) rfl (by kernel_rfl) (by kernel_rfl) (by kernel_rfl) (fun _ _ _ h => h) (yieldsIf_cell (.int .u64 p.theirs) rfl (fun w h => by have j0 : w.cell? ⟨g7, 1, none⟩ = some (.int .u64 p.theirs) := (h.2.1).cell 1; go_simp)) hH ?_
        try simp only [List.getElem_toArray, List.getElem_cons_succ, List.getElem_cons_zero, Act.put, List.setIfInBounds_toArray, List.set_cons_zero, List.set_cons_succ]
        refine wpAnyH_ready (rs := [3, 10]) (by kernel_rfl) (by simp) ?_
        refine AllReadyH.cons rfl (fun KK hK => ?_) ?_
        · go_simp
          refine (grant_any p.theirs 4 _).mono ?_
          rintro e x1 ⟨rfl, hb1⟩
          refine hK.out _ _ ⟨bnext hH.1 hb1, hH.2.1.below hb1, hH.2.2.below hb1⟩ (fun hH1 => ?_)
          clear hK KK
          try simp only [List.getElem_toArray, List.getElem_cons_succ, List.getElem_cons_zero, Act.put, List.setIfInBounds_toArray, List.set_cons_zero, List.set_cons_succ]
          refine wpAnyH_ready (rs := [4, 10]) (by kernel_rfl) (by simp) ?_
          refine AllReadyH.cons rfl (fun KK hK => ?_) ?_
          · go_simp
            refine (MC.out _ _ hH1.2.2.at).mono ?_
            rintro e x2 ⟨V7, rfl, ⟨A7, a7, B7, b7, C7, c7, rfl, R7⟩, hb2⟩
            dsimp only [rsQ, zSend, zRec, List.length_nil] at R7 ⊢
            have r7 : PrB 0 x2 (.agg #[.int .i64 p.node, .int .u64 p.theirs, .bool true, .int .u64 0, .int .u64 0, .int .u64 0, .int .u64 0, .slice A7 0 a7, .int .u64 0, .int .u64 0, .int .u64 0, .slice B7 0 b7, .slice C7 0 c7]) (rsQ p) := PrB.low (B := x1.heap.size) ⟨A7, a7, B7, b7, C7, c7, rfl, R7⟩ (Nat.zero_le _)
            refine hK.out _ _ ⟨bnext hH1.1 hb2, hH1.2.1.below hb2, hH1.2.2.below hb2⟩ (fun hH2 => ?_)
            clear hK KK
            try simp only [List.getElem_toArray, List.getElem_cons_succ, List.getElem_cons_zero, Act.put, List.setIfInBounds_toArray, List.set_cons_zero, List.set_cons_succ]
            refine wpAnyH_take (i := 5) rfl (by kernel_rfl) (by kernel_rfl) (by kernel_rfl) (fun _ _ _ h => h) (yieldsIf_pure _ (.tuple #[.agg #[.int .i64 p.node, .int .u64 p.theirs, .bool true, .int .u64 0, .int .u64 0, .int .u64 0, .int .u64 0, .slice A7 0 a7, .int .u64 0, .int .u64 0, .int .u64 0, .slice B7 0 b7, .slice C7 0 c7], .int .i64 3, .bool false, .int .i64 0]) rfl (.inl rfl) rfl) hH2 ?_
            try simp only [List.getElem_toArray, List.getElem_cons_succ, List.getElem_cons_zero, Act.put, List.setIfInBounds_toArray, List.set_cons_zero, List.set_cons_succ]
            refine wpAnyH_take (i := 6) rfl (by kernel_rfl) (by kernel_rfl) (by kernel_rfl) (fun _ _ _ h => h) (yieldsIf_cell (.agg #[.int .i64 p.node, .int .u64 p.theirs, .bool true, .int .u64 0, .int .u64 0, .int .u64 0, .int .u64 0, .slice A7 0 a7, .int .u64 0, .int .u64 0, .int .u64 0, .slice B7 0 b7, .slice C7 0 c7]) rfl (fun w h => by go_simp)) hH2 ?_
            try simp only [List.getElem_toArray, List.getElem_cons_succ, List.getElem_cons_zero, Act.put, List.setIfInBounds_toArray, List.set_cons_zero, List.set_cons_succ]
            refine wpAnyH_take (i := 7) rfl (by kernel_rfl) (by kernel_rfl) (by kernel_rfl) (fun _ _ _ h => h) (yieldsIf_cell (.int .i64 3) rfl (fun w h => by go_simp)) hH2 ?_
            try simp only [List.getElem_toArray, List.getElem_cons_succ, List.getElem_cons_zero, Act.put, List.setIfInBounds_toArray, List.set_cons_zero, List.set_cons_succ]
            refine wpAnyH_take (i := 8) rfl (by kernel_rfl) (by kernel_rfl) (by kernel_rfl) (fun _ _ _ h => h) (yieldsIf_cell (.bool false) rfl (fun w h => by go_simp)) hH2 ?_
            try simp only [List.getElem_toArray, List.getElem_cons_succ, List.getElem_cons_zero, Act.put, List.setIfInBounds_toArray, List.set_cons_zero, List.set_cons_succ]
            refine wpAnyH_take (i := 9) rfl (by kernel_rfl) (by kernel_rfl) (by kernel_rfl) (fun _ _ _ h => h) (yieldsIf_cell (.int .i64 0) rfl (fun w h => by go_simp)) hH2 ?_
            try simp only [List.getElem_toArray, List.getElem_cons_succ, List.getElem_cons_zero, Act.put, List.setIfInBounds_toArray, List.set_cons_zero, List.set_cons_succ]
            refine wpAnyH_ready (rs := [10]) (by kernel_rfl) (by simp) ?_
            refine AllReadyH.cons rfl (fun KK hK => ?_) AllReadyH.nil
            go_simp
            have hb3 := bal (Below.refl x2.heap.size x2) (.cells #[.int .i64 0, .int .u64 0, .bool false, .int .u64 0, .int .u64 0, .int .u64 0, .int .u64 0, .slice none 0 0, .int .u64 0, .int .u64 0, .int .u64 0, .slice none 0 0, .slice none 0 0] 31)
            have ka3 := Blk.new x2 31 #[.int .i64 0, .int .u64 0, .bool false, .int .u64 0, .int .u64 0, .int .u64 0, .int .u64 0, .slice none 0 0, .int .u64 0, .int .u64 0, .int .u64 0, .slice none 0 0, .slice none 0 0]
            have al3 : ¬ g7 = x2.heap.size := Nat.ne_of_lt hH2.2.1.lt
            have aw3 : w.heap.size ≤ x2.heap.size := hH2.1.size
            obtain ⟨x3, hx3⟩ : ∃ x, x2.alloc (.cells #[.int .i64 0, .int .u64 0, .bool false, .int .u64 0, .int .u64 0, .int .u64 0, .int .u64 0, .slice none 0 0, .int .u64 0, .int .u64 0, .int .u64 0, .slice none 0 0, .slice none 0 0] 31) = x := ⟨_, rfl⟩
            rw [hx3] at ka3 hb3 ⊢
            refine hK.out _ _ ⟨bnext hH2.1 hb3, hH2.2.1.below hb3, hH2.2.2.below hb3⟩ (fun hH3 => ?_)
            clear hK KK
            try simp only [List.getElem_toArray, List.getElem_cons_succ, List.getElem_cons_zero, Act.put, List.setIfInBounds_toArray, List.set_cons_zero, List.set_cons_succ]
            refine wpAnyH_ready (rs := [11]) (by kernel_rfl) (by simp) ?_
            refine AllReadyH.cons rfl (fun KK hK => ?_) AllReadyH.nil
            rw [if_pos (by rfl)]
            refine wp_store_mid 31 _ _ rfl (x2.heap.size) 0 #[.int .i64 p.node, .int .u64 p.theirs, .bool true, .int .u64 0, .int .u64 0, .int .u64 0, .int .u64 0, .slice A7 0 a7, .int .u64 0, .int .u64 0, .int .u64 0, .slice B7 0 b7, .slice C7 0 c7] rfl rfl (Blk.there ka3 0 _ (Nat.le_refl 13)) (by kernel_rfl) (by kernel_rfl) ?_
            have ka4 : Blk (x3.setCells (x2.heap.size) 0 (Array.toList #[.int .i64 p.node, .int .u64 p.theirs, .bool true, .int .u64 0, .int .u64 0, .int .u64 0, .int .u64 0, .slice A7 0 a7, .int .u64 0, .int .u64 0, .int .u64 0, .slice B7 0 b7, .slice C7 0 c7])) (x2.heap.size) 31 #[.int .i64 p.node, .int .u64 p.theirs, .bool true, .int .u64 0, .int .u64 0, .int .u64 0, .int .u64 0, .slice A7 0 a7, .int .u64 0, .int .u64 0, .int .u64 0, .slice B7 0 b7, .slice C7 0 c7] := (ka3).setAll rfl
            refine hK.out _ _ ⟨below_setCells aw3 _ _ hH3.1, hH3.2.1.farAll al3 _ _, hH3.2.2.anyw rfl rfl rfl⟩ (fun hH4 => ?_)
            clear hK KK
            try simp only [List.getElem_toArray, List.getElem_cons_succ, List.getElem_cons_zero, Act.put, List.setIfInBounds_toArray, List.set_cons_zero, List.set_cons_succ]
            refine wpAnyH_take (i := 12) rfl (by kernel_rfl) (by kernel_rfl) (by kernel_rfl) (fun _ _ _ h => h) (yieldsIf_pure _ (.int .i64 3) rfl (.inr rfl) rfl) hH4 ?_
            try simp only [List.getElem_toArray, List.getElem_cons_succ, List.getElem_cons_zero, Act.put, List.setIfInBounds_toArray, List.set_cons_zero, List.set_cons_succ]
            refine wpAnyH_take (i := 13) rfl (by kernel_rfl) (by kernel_rfl) (by kernel_rfl) (fun _ _ _ h => h) (yieldsIf_pure _ (.bool false) rfl (.inr rfl) rfl) hH4 ?_
            try simp only [List.getElem_toArray, List.getElem_cons_succ, List.getElem_cons_zero, Act.put, List.setIfInBounds_toArray, List.set_cons_zero, List.set_cons_succ]
            refine wpAnyH_take (i := 14) rfl (by kernel_rfl) (by kernel_rfl) (by kernel_rfl) (fun _ _ _ h => h) (yieldsIf_pure _ (.int .i64 0) rfl (.inr rfl) rfl) hH4 ?_
            try simp only [List.getElem_toArray, List.getElem_cons_succ, List.getElem_cons_zero, Act.put, List.setIfInBounds_toArray, List.set_cons_zero, List.set_cons_succ]
            refine wpAnyH_done (by kernel_rfl) ?_ _
            go_wp2_with fail
            go_meet
            exact ⟨rfl, rfl, rfl, _, _, _, _, _, _, _, rfl, ka4, r7.anyw rfl rfl rfl, hH4.1⟩
          refine AllReadyH.cons rfl (fun KK hK => ?_) ?_
          · go_simp
            have hb5 := bal (Below.refl x1.heap.size x1) (.cells #[.int .i64 0, .int .u64 0, .bool false, .int .u64 0, .int .u64 0, .int .u64 0, .int .u64 0, .slice none 0 0, .int .u64 0, .int .u64 0, .int .u64 0, .slice none 0 0, .slice none 0 0] 31)
            have ka5 := Blk.new x1 31 #[.int .i64 0, .int .u64 0, .bool false, .int .u64 0, .int .u64 0, .int .u64 0, .int .u64 0, .slice none 0 0, .int .u64 0, .int .u64 0, .int .u64 0, .slice none 0 0, .slice none 0 0]
            have al5 : ¬ g7 = x1.heap.size := Nat.ne_of_lt hH1.2.1.lt
            have aw5 : w.heap.size ≤ x1.heap.size := hH1.1.size
            obtain ⟨x5, hx5⟩ : ∃ x, x1.alloc (.cells #[.int .i64 0, .int .u64 0, .bool false, .int .u64 0, .int .u64 0, .int .u64 0, .int .u64 0, .slice none 0 0, .int .u64 0, .int .u64 0, .int .u64 0, .slice none 0 0, .slice none 0 0] 31) = x := ⟨_, rfl⟩
            rw [hx5] at ka5 hb5 ⊢
            refine hK.out _ _ ⟨bnext hH1.1 hb5, hH1.2.1.below hb5, hH1.2.2.below hb5⟩ (fun hH5 => ?_)
            clear hK KK
            try simp only [List.getElem_toArray, List.getElem_cons_succ, List.getElem_cons_zero, Act.put, List.setIfInBounds_toArray, List.set_cons_zero, List.set_cons_succ]
            refine wpAnyH_ready (rs := [4]) (by kernel_rfl) (by simp) ?_
            refine AllReadyH.cons rfl (fun KK hK => ?_) AllReadyH.nil
            go_simp
            refine (MC.out _ _ hH5.2.2.at).mono ?_
            rintro e x6 ⟨V7, rfl, ⟨A7, a7, B7, b7, C7, c7, rfl, R7⟩, hb6⟩
            dsimp only [rsQ, zSend, zRec, List.length_nil] at R7 ⊢
            have r7 : PrB 0 x6 (.agg #[.int .i64 p.node, .int .u64 p.theirs, .bool true, .int .u64 0, .int .u64 0, .int .u64 0, .int .u64 0, .slice A7 0 a7, .int .u64 0, .int .u64 0, .int .u64 0, .slice B7 0 b7, .slice C7 0 c7]) (rsQ p) := PrB.low (B := x5.heap.size) ⟨A7, a7, B7, b7, C7, c7, rfl, R7⟩ (Nat.zero_le _)
            have ka6 := (ka5).below hb6
            refine hK.out _ _ ⟨bnext hH5.1 hb6, hH5.2.1.below hb6, hH5.2.2.below hb6⟩ (fun hH6 => ?_)
            clear hK KK
            try simp only [List.getElem_toArray, List.getElem_cons_succ, List.getElem_cons_zero, Act.put, List.setIfInBounds_toArray, List.set_cons_zero, List.set_cons_succ]
            refine wpAnyH_take (i := 5) rfl (by kernel_rfl) (by kernel_rfl) (by kernel_rfl) (fun _ _ _ h => h) (yieldsIf_pure _ (.tuple #[.agg #[.int .i64 p.node, .int .u64 p.theirs, .bool true, .int .u64 0, .int .u64 0, .int .u64 0, .int .u64 0, .slice A7 0 a7, .int .u64 0, .int .u64 0, .int .u64 0, .slice B7 0 b7, .slice C7 0 c7], .int .i64 3, .bool false, .int .i64 0]) rfl (.inl rfl) rfl) hH6 ?_
            try simp only [List.getElem_toArray, List.getElem_cons_succ, List.getElem_cons_zero, Act.put, List.setIfInBounds_toArray, List.set_cons_zero, List.set_cons_succ]
            refine wpAnyH_take (i := 6) rfl (by kernel_rfl) (by kernel_rfl) (by kernel_rfl) (fun _ _ _ h => h) (yieldsIf_cell (.agg #[.int .i64 p.node, .int .u64 p.theirs, .bool true, .int .u64 0, .int .u64 0, .int .u64 0, .int .u64 0, .slice A7 0 a7, .int .u64 0, .int .u64 0, .int .u64 0, .slice B7 0 b7, .slice C7 0 c7]) rfl (fun w h => by go_simp)) hH6 ?_
            try simp only [List.getElem_toArray, List.getElem_cons_succ, List.getElem_cons_zero, Act.put, List.setIfInBounds_toArray, List.set_cons_zero, List.set_cons_succ]
            refine wpAnyH_take (i := 7) rfl (by kernel_rfl) (by kernel_rfl) (by kernel_rfl) (fun _ _ _ h => h) (yieldsIf_cell (.int .i64 3) rfl (fun w h => by go_simp)) hH6 ?_
            try simp only [List.getElem_toArray, List.getElem_cons_succ, List.getElem_cons_zero, Act.put, List.setIfInBounds_toArray, List.set_cons_zero, List.set_cons_succ]
            refine wpAnyH_take (i := 8) rfl (by kernel_rfl) (by kernel_rfl) (by kernel_rfl) (fun _ _ _ h => h) (yieldsIf_cell (.bool false) rfl (fun w h => by go_simp)) hH6 ?_
            try simp only [List.getElem_toArray, List.getElem_cons_succ, List.getElem_cons_zero, Act.put, List.setIfInBounds_toArray, List.set_cons_zero, List.set_cons_succ]
            refine wpAnyH_take (i := 9) rfl (by kernel_rfl) (by kernel_rfl) (by kernel_rfl) (fun _ _ _ h => h) (yieldsIf_cell (.int .i64 0) rfl (fun w h => by go_simp)) hH6 ?_
            try simp only [List.getElem_toArray, List.getElem_cons_succ, List.getElem_cons_zero, Act.put, List.setIfInBounds_toArray, List.set_cons_zero, List.set_cons_succ]
            refine wpAnyH_ready (rs := [11]) (by kernel_rfl) (by simp) ?_
            refine AllReadyH.cons rfl (fun KK hK => ?_) AllReadyH.nil
            rw [if_pos (by rfl)]
            refine wp_store_mid 31 _ _ rfl (x1.heap.size) 0 #[.int .i64 p.node, .int .u64 p.theirs, .bool true, .int .u64 0, .int .u64 0, .int .u64 0, .int .u64 0, .slice A7 0 a7, .int .u64 0, .int .u64 0, .int .u64 0, .slice B7 0 b7, .slice C7 0 c7] rfl rfl (Blk.there ka6 0 _ (Nat.le_refl 13)) (by kernel_rfl) (by kernel_rfl) ?_
            have ka7 : Blk (x6.setCells (x1.heap.size) 0 (Array.toList #[.int .i64 p.node, .int .u64 p.theirs, .bool true, .int .u64 0, .int .u64 0, .int .u64 0, .int .u64 0, .slice A7 0 a7, .int .u64 0, .int .u64 0, .int .u64 0, .slice B7 0 b7, .slice C7 0 c7])) (x1.heap.size) 31 #[.int .i64 p.node, .int .u64 p.theirs, .bool true, .int .u64 0, .int .u64 0, .int .u64 0, .int .u64 0, .slice A7 0 a7, .int .u64 0, .int .u64 0, .int .u64 0, .slice B7 0 b7, .slice C7 0 c7] := (ka6).setAll rfl
            refine hK.out _ _ ⟨below_setCells aw5 _ _ hH6.1, hH6.2.1.farAll al5 _ _, hH6.2.2.anyw rfl rfl rfl⟩ (fun hH7 => ?_)
            clear hK KK
            try simp only [List.getElem_toArray, List.getElem_cons_succ, List.getElem_cons_zero, Act.put, List.setIfInBounds_toArray, List.set_cons_zero, List.set_cons_succ]
            refine wpAnyH_take (i := 12) rfl (by kernel_rfl) (by kernel_rfl) (by kernel_rfl) (fun _ _ _ h => h) (yieldsIf_pure _ (.int .i64 3) rfl (.inr rfl) rfl) hH7 ?_
            try simp only [List.getElem_toArray, List.getElem_cons_succ, List.getElem_cons_zero, Act.put, List.setIfInBounds_toArray, List.set_cons_zero, List.set_cons_succ]
            refine wpAnyH_take (i := 13) rfl (by kernel_rfl) (by kernel_rfl) (by kernel_rfl) (fun _ _ _ h => h) (yieldsIf_pure _ (.bool false) rfl (.inr rfl) rfl) hH7 ?_
            try simp only [List.getElem_toArray, List.getElem_cons_succ, List.getElem_cons_zero, Act.put, List.setIfInBounds_toArray, List.set_cons_zero, List.set_cons_succ]
            refine wpAnyH_take (i := 14) rfl (by kernel_rfl) (by kernel_rfl) (by kernel_rfl) (fun _ _ _ h => h) (yieldsIf_pure _ (.int .i64 0) rfl (.inr rfl) rfl) hH7 ?_
            try simp only [List.getElem_toArray, List.getElem_cons_succ, List.getElem_cons_zero, Act.put, List.setIfInBounds_toArray, List.set_cons_zero, List.set_cons_succ]
            refine wpAnyH_done (by kernel_rfl) ?_ _
            go_wp2_with fail
            go_meet
            exact ⟨rfl, rfl, rfl, _, _, _, _, _, _, _, rfl, ka7, r7.anyw rfl rfl rfl, hH7.1⟩
          exact AllReadyH.nil
        refine AllReadyH.cons rfl (fun KK hK => ?_) ?_
        · go_simp
          have hb8 := bal (Below.refl x0.heap.size x0) (.cells #[.int .i64 0, .int .u64 0, .bool false, .int .u64 0, .int .u64 0, .int .u64 0, .int .u64 0, .slice none 0 0, .int .u64 0, .int .u64 0, .int .u64 0, .slice none 0 0, .slice none 0 0] 31)
          have ka8 := Blk.new x0 31 #[.int .i64 0, .int .u64 0, .bool false, .int .u64 0, .int .u64 0, .int .u64 0, .int .u64 0, .slice none 0 0, .int .u64 0, .int .u64 0, .int .u64 0, .slice none 0 0, .slice none 0 0]
          have al8 : ¬ g7 = x0.heap.size := Nat.ne_of_lt hH.2.1.lt
          have aw8 : w.heap.size ≤ x0.heap.size := hH.1.size
          obtain ⟨x8, hx8⟩ : ∃ x, x0.alloc (.cells #[.int .i64 0, .int .u64 0, .bool false, .int .u64 0, .int .u64 0, .int .u64 0, .int .u64 0, .slice none 0 0, .int .u64 0, .int .u64 0, .int .u64 0, .slice none 0 0, .slice none 0 0] 31) = x := ⟨_, rfl⟩
          rw [hx8] at ka8 hb8 ⊢
          refine hK.out _ _ ⟨bnext hH.1 hb8, hH.2.1.below hb8, hH.2.2.below hb8⟩ (fun hH8 => ?_)
          clear hK KK
          try simp only [List.getElem_toArray, List.getElem_cons_succ, List.getElem_cons_zero, Act.put, List.setIfInBounds_toArray, List.set_cons_zero, List.set_cons_succ]
          refine wpAnyH_ready (rs := [3]) (by kernel_rfl) (by simp) ?_
          refine AllReadyH.cons rfl (fun KK hK => ?_) AllReadyH.nil
          go_simp
          refine (grant_any p.theirs 4 _).mono ?_
          rintro e x9 ⟨rfl, hb9⟩
          have ka9 := (ka8).below hb9
          refine hK.out _ _ ⟨bnext hH8.1 hb9, hH8.2.1.below hb9, hH8.2.2.below hb9⟩ (fun hH9 => ?_)
          clear hK KK
          try simp only [List.getElem_toArray, List.getElem_cons_succ, List.getElem_cons_zero, Act.put, List.setIfInBounds_toArray, List.set_cons_zero, List.set_cons_succ]
          refine wpAnyH_ready (rs := [4]) (by kernel_rfl) (by simp) ?_
          refine AllReadyH.cons rfl (fun KK hK => ?_) AllReadyH.nil
          go_simp
          refine (MC.out _ _ hH9.2.2.at).mono ?_
          rintro e x10 ⟨V7, rfl, ⟨A7, a7, B7, b7, C7, c7, rfl, R7⟩, hb10⟩
          dsimp only [rsQ, zSend, zRec, List.length_nil] at R7 ⊢
          have r7 : PrB 0 x10 (.agg #[.int .i64 p.node, .int .u64 p.theirs, .bool true, .int .u64 0, .int .u64 0, .int .u64 0, .int .u64 0, .slice A7 0 a7, .int .u64 0, .int .u64 0, .int .u64 0, .slice B7 0 b7, .slice C7 0 c7]) (rsQ p) := PrB.low (B := x9.heap.size) ⟨A7, a7, B7, b7, C7, c7, rfl, R7⟩ (Nat.zero_le _)
          have ka10 := (ka9).below hb10
          refine hK.out _ _ ⟨bnext hH9.1 hb10, hH9.2.1.below hb10, hH9.2.2.below hb10⟩ (fun hH10 => ?_)
          clear hK KK
          try simp only [List.getElem_toArray, List.getElem_cons_succ, List.getElem_cons_zero, Act.put, List.setIfInBounds_toArray, List.set_cons_zero, List.set_cons_succ]
          refine wpAnyH_take (i := 5) rfl (by kernel_rfl) (by kernel_rfl) (by kernel_rfl) (fun _ _ _ h => h) (yieldsIf_pure _ (.tuple #[.agg #[.int .i64 p.node, .int .u64 p.theirs, .bool true, .int .u64 0, .int .u64 0, .int .u64 0, .int .u64 0, .slice A7 0 a7, .int .u64 0, .int .u64 0, .int .u64 0, .slice B7 0 b7, .slice C7 0 c7], .int .i64 3, .bool false, .int .i64 0]) rfl (.inl rfl) rfl) hH10 ?_
          try simp only [List.getElem_toArray, List.getElem_cons_succ, List.getElem_cons_zero, Act.put, List.setIfInBounds_toArray, List.set_cons_zero, List.set_cons_succ]
          refine wpAnyH_take (i := 6) rfl (by kernel_rfl) (by kernel_rfl) (by kernel_rfl) (fun _ _ _ h => h) (yieldsIf_cell (.agg #[.int .i64 p.node, .int .u64 p.theirs, .bool true, .int .u64 0, .int .u64 0, .int .u64 0, .int .u64 0, .slice A7 0 a7, .int .u64 0, .int .u64 0, .int .u64 0, .slice B7 0 b7, .slice C7 0 c7]) rfl (fun w h => by go_simp)) hH10 ?_
          try simp only [List.getElem_toArray, List.getElem_cons_succ, List.getElem_cons_zero, Act.put, List.setIfInBounds_toArray, List.set_cons_zero, List.set_cons_succ]
          refine wpAnyH_take (i := 7) rfl (by kernel_rfl) (by kernel_rfl) (by kernel_rfl) (fun _ _ _ h => h) (yieldsIf_cell (.int .i64 3) rfl (fun w h => by go_simp)) hH10 ?_
          try simp only [List.getElem_toArray, List.getElem_cons_succ, List.getElem_cons_zero, Act.put, List.setIfInBounds_toArray, List.set_cons_zero, List.set_cons_succ]
          refine wpAnyH_take (i := 8) rfl (by kernel_rfl) (by kernel_rfl) (by kernel_rfl) (fun _ _ _ h => h) (yieldsIf_cell (.bool false) rfl (fun w h => by go_simp)) hH10 ?_
          try simp only [List.getElem_toArray, List.getElem_cons_succ, List.getElem_cons_zero, Act.put, List.setIfInBounds_toArray, List.set_cons_zero, List.set_cons_succ]
          refine wpAnyH_take (i := 9) rfl (by kernel_rfl) (by kernel_rfl) (by kernel_rfl) (fun _ _ _ h => h) (yieldsIf_cell (.int .i64 0) rfl (fun w h => by go_simp)) hH10 ?_
          try simp only [List.getElem_toArray, List.getElem_cons_succ, List.getElem_cons_zero, Act.put, List.setIfInBounds_toArray, List.set_cons_zero, List.set_cons_succ]
          refine wpAnyH_ready (rs := [11]) (by kernel_rfl) (by simp) ?_
          refine AllReadyH.cons rfl (fun KK hK => ?_) AllReadyH.nil
          rw [if_pos (by rfl)]
          refine wp_store_mid 31 _ _ rfl (x0.heap.size) 0 #[.int .i64 p.node, .int .u64 p.theirs, .bool true, .int .u64 0, .int .u64 0, .int .u64 0, .int .u64 0, .slice A7 0 a7, .int .u64 0, .int .u64 0, .int .u64 0, .slice B7 0 b7, .slice C7 0 c7] rfl rfl (Blk.there ka10 0 _ (Nat.le_refl 13)) (by kernel_rfl) (by kernel_rfl) ?_
          have ka11 : Blk (x10.setCells (x0.heap.size) 0 (Array.toList #[.int .i64 p.node, .int .u64 p.theirs, .bool true, .int .u64 0, .int .u64 0, .int .u64 0, .int .u64 0, .slice A7 0 a7, .int .u64 0, .int .u64 0, .int .u64 0, .slice B7 0 b7, .slice C7 0 c7])) (x0.heap.size) 31 #[.int .i64 p.node, .int .u64 p.theirs, .bool true, .int .u64 0, .int .u64 0, .int .u64 0, .int .u64 0, .slice A7 0 a7, .int .u64 0, .int .u64 0, .int .u64 0, .slice B7 0 b7, .slice C7 0 c7] := (ka10).setAll rfl
          refine hK.out _ _ ⟨below_setCells aw8 _ _ hH10.1, hH10.2.1.farAll al8 _ _, hH10.2.2.anyw rfl rfl rfl⟩ (fun hH11 => ?_)
          clear hK KK
          try simp only [List.getElem_toArray, List.getElem_cons_succ, List.getElem_cons_zero, Act.put, List.setIfInBounds_toArray, List.set_cons_zero, List.set_cons_succ]
          refine wpAnyH_take (i := 12) rfl (by kernel_rfl) (by kernel_rfl) (by kernel_rfl) (fun _ _ _ h => h) (yieldsIf_pure _ (.int .i64 3) rfl (.inr rfl) rfl) hH11 ?_
          try simp only [List.getElem_toArray, List.getElem_cons_succ, List.getElem_cons_zero, Act.put, List.setIfInBounds_toArray, List.set_cons_zero, List.set_cons_succ]
          refine wpAnyH_take (i := 13) rfl (by kernel_rfl) (by kernel_rfl) (by kernel_rfl) (fun _ _ _ h => h) (yieldsIf_pure _ (.bool false) rfl (.inr rfl) rfl) hH11 ?_
          try simp only [List.getElem_toArray, List.getElem_cons_succ, List.getElem_cons_zero, Act.put, List.setIfInBounds_toArray, List.set_cons_zero, List.set_cons_succ]
          refine wpAnyH_take (i := 14) rfl (by kernel_rfl) (by kernel_rfl) (by kernel_rfl) (fun _ _ _ h => h) (yieldsIf_pure _ (.int .i64 0) rfl (.inr rfl) rfl) hH11 ?_
          try simp only [List.getElem_toArray, List.getElem_cons_succ, List.getElem_cons_zero, Act.put, List.setIfInBounds_toArray, List.set_cons_zero, List.set_cons_succ]
          refine wpAnyH_done (by kernel_rfl) ?_ _
          go_wp2_with fail
          go_meet
          exact ⟨rfl, rfl, rfl, _, _, _, _, _, _, _, rfl, ka11, r7.anyw rfl rfl rfl, hH11.1⟩
        exact AllReadyH.nil
      case rest =>
      clear k7 RR hB
      obtain ⟨rfl, rfl, rfl, g13, A7, a7, B7, b7, C7, c7, rfl, k13, r7, hB⟩ := hcut
      generalize wc = y9 at k13 r7 hB ⊢
      have RV : Hid (∀ w', Calls Try.prog 29 #[.agg #[.int .u64 0, .int .u64 0, .int .u64 0, .slice B7 0 b7, .slice C7 0 c7]] w' (Ret2 .u64 .i64 0 0 w')) := Lib.hid (fun w' => by
        obtain ⟨_, _, _, e, _, q2, q3⟩ := (r7.anyw (w' := w') rfl rfl rfl).at
        cases e
        exact rReserved_any zRec wfR_z _ _ w' q2 q3)
      have hl13 := k13.lt
      obtain ⟨z13_0, z13_1, z13_2, z13_3, z13_4, z13_5, z13_6, z13_7, z13_8, z13_9, z13_10, z13_11, z13_12⟩ := k13.c13
      go_wp2_with (first | (refine wpList_ldrow (by rfl) 31 _ (by rfl) g13 (by rfl) 31 #[.int .i64 p.node, .int .u64 p.theirs, .bool true, .int .u64 0, .int .u64 0, .int .u64 0, .int .u64 0, .slice A7 0 a7, .int .u64 0, .int .u64 0, .int .u64 0, .slice B7 0 b7, .slice C7 0 c7] (0, 0) _ k13 Try.underlying31 (by rfl) (by kernel_rfl) ?_))
      clear z13_0 z13_1 z13_2 z13_3 z13_4 z13_5 z13_6 z13_7 z13_8 z13_9 z13_10 z13_11 z13_12
      clear hl13
      refine (RV.out _).mono ?_
      rintro e v51 ⟨rfl, hb⟩
      replace k13 := k13.below hb
      replace r7 := r7.below hb
      have hB2 := bnext hB hb
      clear hB hb
      have hB := hB2
      clear hB2
      have hl13 := k13.lt
      go_wp2_with (first | (refine wpList_ldrow (by rfl) 31 _ (by rfl) g13 (by rfl) 31 #[.int .i64 p.node, .int .u64 p.theirs, .bool true, .int .u64 0, .int .u64 0, .int .u64 0, .int .u64 0, .slice A7 0 a7, .int .u64 0, .int .u64 0, .int .u64 0, .slice B7 0 b7, .slice C7 0 c7] (0, 0) _ k13 Try.underlying31 (by rfl) (by kernel_rfl) ?_))
      clear hl13
      refine (held_true (rsQ p) (rsQ_ok hp'.out hp0).1 0 (rsQ_ok hp'.out hp0).2.2 (rsQ_ok hp'.out hp0).2.1 _ _ r7.at).mono ?_
      rintro e v52 ⟨rfl, hb⟩
      replace k13 := k13.below hb
      replace r7 := r7.below hb
      have hB2 := bnext hB hb
      clear hB hb
      have hB := hB2
      clear hB2
      have hl13 := k13.lt
      go_wp2_with (first | (refine wpList_ldrow (by rfl) 31 _ (by rfl) g13 (by rfl) 31 #[.int .i64 p.node, .int .u64 p.theirs, .bool true, .int .u64 0, .int .u64 0, .int .u64 0, .int .u64 0, .slice A7 0 a7, .int .u64 0, .int .u64 0, .int .u64 0, .slice B7 0 b7, .slice C7 0 c7] (0, 0) _ k13 Try.underlying31 (by rfl) (by kernel_rfl) ?_))
      clear hl13
      refine (awake_any _).mono ?_
      rintro e v53 ⟨rfl, hb⟩
      replace k13 := k13.below hb
      replace r7 := r7.below hb
      have hB2 := bnext hB hb
      clear hB hb
      have hB := hB2
      clear hB2
      go_wp2_with fail
      go_ret
      exact ⟨rfl, hB⟩
end Go.Proofs.Ytfgkkflbpfocjaa

