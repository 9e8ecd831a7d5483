/- The law PeerOnce. Arguments: a row of numbers. -/
import Derived.Test.YtfgkkflbpfocjaaZ19
import Derived.Test.YtfgkkflbpfocjaaZ15
import Derived.Test.YtfgkkflbpfocjaaZ12
import Derived.Test.YtfgkkflbpfocjaaZ6
namespace Go.Proofs.Ytfgkkflbpfocjaa
open Go.RowKit
set_option linter.unusedVariables false
set_option linter.unusedSimpArgs false

theorem met_v (p : Pr) (b : Int) (f : Fr) : (met p b f).2.1 = 1 ∨ (met p b f).2.1 = 2 ∨ (met p b f).2.1 = 3 := by
  unfold met
  split
  · exact .inl rfl
  · split
    · exact .inr (.inl rfl)
    · exact .inr (.inr rfl)
theorem once_law {p : Pr} (hp : MadeP p) {f : Fr} {m y : Int} (hf : grt (1 + m) y = f) (hm : 0 ≤ m ∧ m ≤ 6) (hy : 0 ≤ y ∧ y ≤ 6) :
    ∃ q v ow, mtV p 4 f = (q, v, ow) ∧ metE p 4 f = 0 ∧ mtV q 4 f = (q, v, decide (v = 2)) ∧ metE q 4 f = 0 ∧ chkP q = 0 ∧ WfP q ∧ p.theirs ≤ q.theirs ∧ ((v = 1 ∧ q = p) ∨ v = 2 ∨ (v = 3 ∧ q.sure = true ∧ q.old = 0)) := by
  have hfr : f.frm = 2 := by rw [← hf]; rfl
  have hmn : f.mine = 1 + m := by rw [← hf]; rfl
  have hE : frE f = 0 := by rw [← hf]; exact frE_grt (by omega) (by omega) (by omega) (by omega)
  have e1 : metE p 4 f = 0 := metE_zero hp.ok ⟨by decide, by decide⟩ hE (by rw [hfr, hp.node])
  obtain ⟨k1, k2, k3, k4⟩ := met_ok (b := 4) (f := f) hp.ok hp.wf (by rw [hmn]; omega)
  have e2 : metE (met p 4 f).1 4 f = 0 := metE_zero k1 ⟨by decide, by decide⟩ hE (by rw [hfr, k3, hp.node])
  obtain ⟨t1, t2, t3, t4, t5⟩ := met_twice p 4 f
  refine ⟨(met p 4 f).1, (met p 4 f).2.1, (met p 4 f).2.2, by rw [mtV, if_pos e1], e1, ?_, e2, k1, k2, k4, ?_⟩
  · rw [mtV, if_pos e2]
    exact Prod.ext t1 (Prod.ext t2 t3)
  · rcases met_v p 4 f with h | h | h
    · exact .inl ⟨h, t4 h⟩
    · exact .inr (.inl h)
    · exact .inr (.inr ⟨h, t5 h⟩)
theorem wfF_grt' {m y : Int} {f : Fr} (hf : grt (1 + m) y = f) (hm : 0 ≤ m ∧ m ≤ 6) (hy : 0 ≤ y ∧ y ≤ 6) : WfF f := by
  rw [← hf]; exact wfF_grt _ _ (by omega) (by omega)

set_option maxRecDepth 100000 in
set_option maxHeartbeats 8000000 in
theorem PeerOnce_t (xs : List Int) (V0 : Value) (theirs mine yours : Int) (w : World) (hS : SlAt w 1 V0 xs.length (ints xs)) (h1 : 0 ≤ mine) (h2 : 0 ≤ yours) :
    Calls Try.prog 6 #[V0, .int .i64 theirs, .int .u64 mine, .int .u64 yours] w (RetB true w) := by
  have HS' := Lib.hid hS
  clear hS
  obtain ⟨m, hm⟩ : ∃ m, mine.tmod 7 = m := ⟨_, rfl⟩
  obtain ⟨y, hy⟩ : ∃ y, yours.tmod 7 = y := ⟨_, rfl⟩
  have hm0 : 0 ≤ m ∧ m ≤ 6 := by rw [← hm, Int.tmod_eq_emod_of_nonneg h1]; omega
  have hy0 : 0 ≤ y ∧ y ≤ 6 := by rw [← hy, Int.tmod_eq_emod_of_nonneg h2]; omega
  clear h1 h2
  obtain ⟨f, hf⟩ : ∃ f, grt (1 + m) y = f := ⟨_, rfl⟩
  have GR' : Hid (∀ w', Calls Try.prog 24 #[.int .u64 (1 + m), .int .u64 y] w' (fun e w'' => e = .returned (.agg #[.int .i64 f.kind, .int .i64 f.frm, .int .i64 f.to, .int .u64 f.mine, .int .u64 f.yours, .int .u64 f.a, .int .u64 f.b, .int .i64 f.inode, .int .u64 f.iseq, .int .i64 f.ioff, .int .i64 f.bn.node, .int .u64 f.bn.seq, .int .i64 f.bn.off, .int .i64 f.bn.dest, .int .i64 f.bn.prio, .int .i64 f.bn.born, .int .i64 f.bn.life, .int .i64 f.bn.total, .string f.bn.data]) ∧ Below w'.heap.size w' w'')) := Lib.hid (fun w' => by
    have := grant_any (1 + m) y w'
    rw [hf] at this
    exact this)
  have hf' := Lib.hid hf
  clear hf
  go_enter Try.func6, Try.ntmps6
  have hB := Below.refl w.heap.size w
  go_wp2_with fail
  refine (made_any xs V0 theirs w HS'.out).mono ?_
  rintro e v0 ⟨p, V1, hp, rfl, hV1, hb⟩
  replace hB := bnext hB hb
  clear hb
  have hp' := Lib.hid hp
  clear hp
  obtain ⟨A1, a1, B1, b1, C1, c1, rfl⟩ := hV1.frm
  have RX : PrAt (v0.alloc (.cells #[.int .i64 p.node, .int .u64 p.theirs, .bool p.sure, .int .u64 p.old, .int .u64 p.s.g, .int .u64 p.s.n, .int .u64 p.s.r, .slice A1 p.s.sl.length a1, .int .u64 p.r.g, .int .u64 p.r.r, .int .u64 p.r.fl, .slice B1 p.r.tk.length b1, .slice C1 p.r.kp.length c1] 31)) (.agg #[.int .i64 p.node, .int .u64 p.theirs, .bool p.sure, .int .u64 p.old, .int .u64 p.s.g, .int .u64 p.s.n, .int .u64 p.s.r, .slice A1 p.s.sl.length a1, .int .u64 p.r.g, .int .u64 p.r.r, .int .u64 p.r.fl, .slice B1 p.r.tk.length b1, .slice C1 p.r.kp.length c1]) p := (hV1.at).below (bal (Below.refl _ _) _)
  go_upto_region 2 with (go_big_may; first | (refine wpList_alloc_z (by rfl) 31 (by rfl) _ rfl #[.int .i64 0, .int .u64 0, .bool false, .int .u64 0, .int .u64 0, .int .u64 0, .int .u64 0, .slice none 0 0, .int .u64 0, .int .u64 0, .int .u64 0, .slice none 0 0, .slice none 0 0] (fun w => by kernel_rfl) ?_) | (refine wpList_store_new (by rfl) 31 _ _ (by rfl) v0 #[.int .i64 0, .int .u64 0, .bool false, .int .u64 0, .int .u64 0, .int .u64 0, .int .u64 0, .slice none 0 0, .int .u64 0, .int .u64 0, .int .u64 0, .slice none 0 0, .slice none 0 0] #[.int .i64 p.node, .int .u64 p.theirs, .bool p.sure, .int .u64 p.old, .int .u64 p.s.g, .int .u64 p.s.n, .int .u64 p.s.r, .slice A1 p.s.sl.length a1, .int .u64 p.r.g, .int .u64 p.r.r, .int .u64 p.r.fl, .slice B1 p.r.tk.length b1, .slice C1 p.r.kp.length c1] rfl (by rfl) (by rfl) (by kernel_rfl) rfl (by kernel_rfl) ?_))
  skip
  have k9 := Blk.new v0 31 #[.int .i64 p.node, .int .u64 p.theirs, .bool p.sure, .int .u64 p.old, .int .u64 p.s.g, .int .u64 p.s.n, .int .u64 p.s.r, .slice A1 p.s.sl.length a1, .int .u64 p.r.g, .int .u64 p.r.r, .int .u64 p.r.fl, .slice B1 p.r.tk.length b1, .slice C1 p.r.kp.length c1]
  replace hB := bal hB (.cells #[.int .i64 p.node, .int .u64 p.theirs, .bool p.sure, .int .u64 p.old, .int .u64 p.s.g, .int .u64 p.s.n, .int .u64 p.s.r, .slice A1 p.s.sl.length a1, .int .u64 p.r.g, .int .u64 p.r.r, .int .u64 p.r.fl, .slice B1 p.r.tk.length b1, .slice C1 p.r.kp.length c1] 31)
  obtain ⟨g9, hg⟩ : ∃ g9, v0.heap.size = g9 := ⟨_, rfl⟩
  rw [hg] at k9 ⊢
  clear hg
  generalize v0.alloc (.cells #[.int .i64 p.node, .int .u64 p.theirs, .bool p.sure, .int .u64 p.old, .int .u64 p.s.g, .int .u64 p.s.n, .int .u64 p.s.r, .slice A1 p.s.sl.length a1, .int .u64 p.r.g, .int .u64 p.r.r, .int .u64 p.r.fl, .slice B1 p.r.tk.length b1, .slice C1 p.r.kp.length c1] 31) = v1 at k9 hB RX ⊢
  clear hV1
  have hl9 := k9.lt
  go_wp2_with (first | (refine wpList_ldrow (by rfl) 31 _ (by rfl) g9 (by rfl) 31 #[.int .i64 p.node, .int .u64 p.theirs, .bool p.sure, .int .u64 p.old, .int .u64 p.s.g, .int .u64 p.s.n, .int .u64 p.s.r, .slice A1 p.s.sl.length a1, .int .u64 p.r.g, .int .u64 p.r.r, .int .u64 p.r.fl, .slice B1 p.r.tk.length b1, .slice C1 p.r.kp.length c1] (0, 0) _ k9 Try.underlying31 (by rfl) (by kernel_rfl) ?_))
  clear hl9
  refine (GR'.out _).mono ?_
  rintro e v2 ⟨rfl, hb⟩
  replace k9 := k9.below hb
  replace RX := RX.below hb
  have hB2 := bnext hB hb
  clear hB hb
  have hB := hB2
  clear hB2
  replace k9 := k9.alloc (.cells #[.int .i64 f.kind, .int .i64 f.frm, .int .i64 f.to, .int .u64 f.mine, .int .u64 f.yours, .int .u64 f.a, .int .u64 f.b, .int .i64 f.inode, .int .u64 f.iseq, .int .i64 f.ioff, .int .i64 f.bn.node, .int .u64 f.bn.seq, .int .i64 f.bn.off, .int .i64 f.bn.dest, .int .i64 f.bn.prio, .int .i64 f.bn.born, .int .i64 f.bn.life, .int .i64 f.bn.total, .string f.bn.data] 51)
  replace RX := RX.below (bal (Below.refl _ _) (.cells #[.int .i64 f.kind, .int .i64 f.frm, .int .i64 f.to, .int .u64 f.mine, .int .u64 f.yours, .int .u64 f.a, .int .u64 f.b, .int .i64 f.inode, .int .u64 f.iseq, .int .i64 f.ioff, .int .i64 f.bn.node, .int .u64 f.bn.seq, .int .i64 f.bn.off, .int .i64 f.bn.dest, .int .i64 f.bn.prio, .int .i64 f.bn.born, .int .i64 f.bn.life, .int .i64 f.bn.total, .string f.bn.data] 51))
  have hl9 := k9.lt
  go_upto_region 3 with (go_big_may; first | (refine wpList_alloc_z (by rfl) 51 (by rfl) _ rfl #[.int .i64 0, .int .i64 0, .int .i64 0, .int .u64 0, .int .u64 0, .int .u64 0, .int .u64 0, .int .i64 0, .int .u64 0, .int .i64 0, .int .i64 0, .int .u64 0, .int .i64 0, .int .i64 0, .int .i64 0, .int .i64 0, .int .i64 0, .int .i64 0, .string ⟨#[]⟩] zeroFr ?_) | (refine wpList_store_new (by rfl) 51 _ _ (by rfl) v2 #[.int .i64 0, .int .i64 0, .int .i64 0, .int .u64 0, .int .u64 0, .int .u64 0, .int .u64 0, .int .i64 0, .int .u64 0, .int .i64 0, .int .i64 0, .int .u64 0, .int .i64 0, .int .i64 0, .int .i64 0, .int .i64 0, .int .i64 0, .int .i64 0, .string ⟨#[]⟩] #[.int .i64 f.kind, .int .i64 f.frm, .int .i64 f.to, .int .u64 f.mine, .int .u64 f.yours, .int .u64 f.a, .int .u64 f.b, .int .i64 f.inode, .int .u64 f.iseq, .int .i64 f.ioff, .int .i64 f.bn.node, .int .u64 f.bn.seq, .int .i64 f.bn.off, .int .i64 f.bn.dest, .int .i64 f.bn.prio, .int .i64 f.bn.born, .int .i64 f.bn.life, .int .i64 f.bn.total, .string f.bn.data] rfl (by rfl) (by rfl) (by kernel_rfl) rfl (one19 ..) ?_))
  clear hl9
  have k10 := Blk.new v2 51 #[.int .i64 f.kind, .int .i64 f.frm, .int .i64 f.to, .int .u64 f.mine, .int .u64 f.yours, .int .u64 f.a, .int .u64 f.b, .int .i64 f.inode, .int .u64 f.iseq, .int .i64 f.ioff, .int .i64 f.bn.node, .int .u64 f.bn.seq, .int .i64 f.bn.off, .int .i64 f.bn.dest, .int .i64 f.bn.prio, .int .i64 f.bn.born, .int .i64 f.bn.life, .int .i64 f.bn.total, .string f.bn.data]
  replace hB := bal hB (.cells #[.int .i64 f.kind, .int .i64 f.frm, .int .i64 f.to, .int .u64 f.mine, .int .u64 f.yours, .int .u64 f.a, .int .u64 f.b, .int .i64 f.inode, .int .u64 f.iseq, .int .i64 f.ioff, .int .i64 f.bn.node, .int .u64 f.bn.seq, .int .i64 f.bn.off, .int .i64 f.bn.dest, .int .i64 f.bn.prio, .int .i64 f.bn.born, .int .i64 f.bn.life, .int .i64 f.bn.total, .string f.bn.data] 51)
  obtain ⟨g10, hg⟩ : ∃ g10, v2.heap.size = g10 := ⟨_, rfl⟩
  rw [hg] at k10 ⊢
  clear hg
  generalize v2.alloc (.cells #[.int .i64 f.kind, .int .i64 f.frm, .int .i64 f.to, .int .u64 f.mine, .int .u64 f.yours, .int .u64 f.a, .int .u64 f.b, .int .i64 f.inode, .int .u64 f.iseq, .int .i64 f.ioff, .int .i64 f.bn.node, .int .u64 f.bn.seq, .int .i64 f.bn.off, .int .i64 f.bn.dest, .int .i64 f.bn.prio, .int .i64 f.bn.born, .int .i64 f.bn.life, .int .i64 f.bn.total, .string f.bn.data] 51) = v3 at k9 k10 hB RX ⊢
  generalize v3 = v2 at k9 k10 hB RX ⊢
  obtain ⟨q, v, ow, h1, h2, h3, h4, h5, h6, h7, h8⟩ := once_law hp'.out hf'.out hm0 hy0
  have M1' : Hid (∀ V w', PrAt w' V p → Calls Try.prog 18 #[V, .int .u64 4, .agg #[.int .i64 f.kind, .int .i64 f.frm, .int .i64 f.to, .int .u64 f.mine, .int .u64 f.yours, .int .u64 f.a, .int .u64 f.b, .int .i64 f.inode, .int .u64 f.iseq, .int .i64 f.ioff, .int .i64 f.bn.node, .int .u64 f.bn.seq, .int .i64 f.bn.off, .int .i64 f.bn.dest, .int .i64 f.bn.prio, .int .i64 f.bn.born, .int .i64 f.bn.life, .int .i64 f.bn.total, .string f.bn.data]] w' (fun e w'' => ∃ V', e = .returned (.tuple #[V', .int .i64 v, .bool ow, .int .i64 0]) ∧ PrB w'.heap.size w'' V' q ∧ Below w'.heap.size w' w'')) := Lib.hid (fun V w' h => by
    have := Meet_any p hp'.out.wf 4 f (wfF_grt' hf'.out hm0 hy0) V w' h
    rw [h1, h2] at this
    exact this)
  have M2' : Hid (∀ V w', PrAt w' V q → Calls Try.prog 18 #[V, .int .u64 4, .agg #[.int .i64 f.kind, .int .i64 f.frm, .int .i64 f.to, .int .u64 f.mine, .int .u64 f.yours, .int .u64 f.a, .int .u64 f.b, .int .i64 f.inode, .int .u64 f.iseq, .int .i64 f.ioff, .int .i64 f.bn.node, .int .u64 f.bn.seq, .int .i64 f.bn.off, .int .i64 f.bn.dest, .int .i64 f.bn.prio, .int .i64 f.bn.born, .int .i64 f.bn.life, .int .i64 f.bn.total, .string f.bn.data]] w' (fun e w'' => ∃ V', e = .returned (.tuple #[V', .int .i64 v, .bool (decide (v = 2)), .int .i64 0]) ∧ PrB w'.heap.size w'' V' q ∧ Below w'.heap.size w' w'')) := Lib.hid (fun V w' h => by
    have := Meet_any q h6 4 f (wfF_grt' hf'.out hm0 hy0) V w' h
    rw [h3, h4] at this
    exact this)
  have CK' : Hid (∀ V w', PrAt w' V q → Calls Try.prog 20 #[V] w' (RetI .i64 0 w')) := Lib.hid (fun V w' h => by
    have := pCheck_any q h6 V w' h
    rwa [h5] at this)
  clear h1 h2 h3 h4 h5 h6
  rcases h8 with ⟨rfl, rfl⟩ | rfl | ⟨rfl, hqs, hqo⟩
  · have hle : decide (q.theirs < q.theirs) = false := decide_eq_false (Int.lt_irrefl _)
    have hl9 := k9.lt
    have hl10 := k10.lt
    go_wp2_with (first | (refine wpList_ldrow (by rfl) 31 _ (by rfl) g9 (by rfl) 31 #[.int .i64 q.node, .int .u64 q.theirs, .bool q.sure, .int .u64 q.old, .int .u64 q.s.g, .int .u64 q.s.n, .int .u64 q.s.r, .slice A1 q.s.sl.length a1, .int .u64 q.r.g, .int .u64 q.r.r, .int .u64 q.r.fl, .slice B1 q.r.tk.length b1, .slice C1 q.r.kp.length c1] (0, 0) _ k9 Try.underlying31 (by rfl) (by kernel_rfl) ?_) | (refine wpList_ldrow (by rfl) 51 _ (by rfl) g10 (by rfl) 51 #[.int .i64 f.kind, .int .i64 f.frm, .int .i64 f.to, .int .u64 f.mine, .int .u64 f.yours, .int .u64 f.a, .int .u64 f.b, .int .i64 f.inode, .int .u64 f.iseq, .int .i64 f.ioff, .int .i64 f.bn.node, .int .u64 f.bn.seq, .int .i64 f.bn.off, .int .i64 f.bn.dest, .int .i64 f.bn.prio, .int .i64 f.bn.born, .int .i64 f.bn.life, .int .i64 f.bn.total, .string f.bn.data] (0, 0) _ k10 Try.underlying51 (by rfl) (by kernel_rfl) ?_))
    clear hl9 hl10
    refine (M1'.out _ _ RX).mono ?_
    rintro e v3 ⟨V2, rfl, hV2, hb⟩
    replace k9 := k9.below hb
    replace k10 := k10.below hb
    replace RX := RX.below hb
    have hB2 := bnext hB hb
    clear hB hb
    have hB := hB2
    clear hB2
    obtain ⟨A2, a2, B2, b2, C2, c2, rfl⟩ := hV2.frm
    have RQ : PrAt (v3.alloc (.cells #[.int .i64 q.node, .int .u64 q.theirs, .bool q.sure, .int .u64 q.old, .int .u64 q.s.g, .int .u64 q.s.n, .int .u64 q.s.r, .slice A2 q.s.sl.length a2, .int .u64 q.r.g, .int .u64 q.r.r, .int .u64 q.r.fl, .slice B2 q.r.tk.length b2, .slice C2 q.r.kp.length c2] 31)) (.agg #[.int .i64 q.node, .int .u64 q.theirs, .bool q.sure, .int .u64 q.old, .int .u64 q.s.g, .int .u64 q.s.n, .int .u64 q.s.r, .slice A2 q.s.sl.length a2, .int .u64 q.r.g, .int .u64 q.r.r, .int .u64 q.r.fl, .slice B2 q.r.tk.length b2, .slice C2 q.r.kp.length c2]) q := (hV2.at).below (bal (Below.refl _ _) _)
    replace k9 := k9.alloc (.cells #[.int .i64 q.node, .int .u64 q.theirs, .bool q.sure, .int .u64 q.old, .int .u64 q.s.g, .int .u64 q.s.n, .int .u64 q.s.r, .slice A2 q.s.sl.length a2, .int .u64 q.r.g, .int .u64 q.r.r, .int .u64 q.r.fl, .slice B2 q.r.tk.length b2, .slice C2 q.r.kp.length c2] 31)
    replace k10 := k10.alloc (.cells #[.int .i64 q.node, .int .u64 q.theirs, .bool q.sure, .int .u64 q.old, .int .u64 q.s.g, .int .u64 q.s.n, .int .u64 q.s.r, .slice A2 q.s.sl.length a2, .int .u64 q.r.g, .int .u64 q.r.r, .int .u64 q.r.fl, .slice B2 q.r.tk.length b2, .slice C2 q.r.kp.length c2] 31)
    replace RX := RX.below (bal (Below.refl _ _) (.cells #[.int .i64 q.node, .int .u64 q.theirs, .bool q.sure, .int .u64 q.old, .int .u64 q.s.g, .int .u64 q.s.n, .int .u64 q.s.r, .slice A2 q.s.sl.length a2, .int .u64 q.r.g, .int .u64 q.r.r, .int .u64 q.r.fl, .slice B2 q.r.tk.length b2, .slice C2 q.r.kp.length c2] 31))
    have hl9 := k9.lt
    have hl10 := k10.lt
    go_upto_region 4 with (go_big_may; first | (refine wpList_alloc_z (by rfl) 31 (by rfl) _ rfl #[.int .i64 0, .int .u64 0, .bool false, .int .u64 0, .int .u64 0, .int .u64 0, .int .u64 0, .slice none 0 0, .int .u64 0, .int .u64 0, .int .u64 0, .slice none 0 0, .slice none 0 0] (fun w => by kernel_rfl) ?_) | (refine wpList_store_new (by rfl) 31 _ _ (by rfl) v3 #[.int .i64 0, .int .u64 0, .bool false, .int .u64 0, .int .u64 0, .int .u64 0, .int .u64 0, .slice none 0 0, .int .u64 0, .int .u64 0, .int .u64 0, .slice none 0 0, .slice none 0 0] #[.int .i64 q.node, .int .u64 q.theirs, .bool q.sure, .int .u64 q.old, .int .u64 q.s.g, .int .u64 q.s.n, .int .u64 q.s.r, .slice A2 q.s.sl.length a2, .int .u64 q.r.g, .int .u64 q.r.r, .int .u64 q.r.fl, .slice B2 q.r.tk.length b2, .slice C2 q.r.kp.length c2] rfl (by rfl) (by rfl) (by kernel_rfl) rfl (by kernel_rfl) ?_))
    clear hl9 hl10
    have k11 := Blk.new v3 31 #[.int .i64 q.node, .int .u64 q.theirs, .bool q.sure, .int .u64 q.old, .int .u64 q.s.g, .int .u64 q.s.n, .int .u64 q.s.r, .slice A2 q.s.sl.length a2, .int .u64 q.r.g, .int .u64 q.r.r, .int .u64 q.r.fl, .slice B2 q.r.tk.length b2, .slice C2 q.r.kp.length c2]
    replace hB := bal hB (.cells #[.int .i64 q.node, .int .u64 q.theirs, .bool q.sure, .int .u64 q.old, .int .u64 q.s.g, .int .u64 q.s.n, .int .u64 q.s.r, .slice A2 q.s.sl.length a2, .int .u64 q.r.g, .int .u64 q.r.r, .int .u64 q.r.fl, .slice B2 q.r.tk.length b2, .slice C2 q.r.kp.length c2] 31)
    obtain ⟨g11, hg⟩ : ∃ g11, v3.heap.size = g11 := ⟨_, rfl⟩
    rw [hg] at k11 ⊢
    clear hg
    generalize v3.alloc (.cells #[.int .i64 q.node, .int .u64 q.theirs, .bool q.sure, .int .u64 q.old, .int .u64 q.s.g, .int .u64 q.s.n, .int .u64 q.s.r, .slice A2 q.s.sl.length a2, .int .u64 q.r.g, .int .u64 q.r.r, .int .u64 q.r.fl, .slice B2 q.r.tk.length b2, .slice C2 q.r.kp.length c2] 31) = v4 at k9 k10 k11 hB RX RQ ⊢
    clear hV2
    have hl9 := k9.lt
    have hl10 := k10.lt
    have hl11 := k11.lt
    go_wp2_with (first | (refine wpList_ldrow (by rfl) 31 _ (by rfl) g9 (by rfl) 31 #[.int .i64 q.node, .int .u64 q.theirs, .bool q.sure, .int .u64 q.old, .int .u64 q.s.g, .int .u64 q.s.n, .int .u64 q.s.r, .slice A1 q.s.sl.length a1, .int .u64 q.r.g, .int .u64 q.r.r, .int .u64 q.r.fl, .slice B1 q.r.tk.length b1, .slice C1 q.r.kp.length c1] (0, 0) _ k9 Try.underlying31 (by rfl) (by kernel_rfl) ?_) | (refine wpList_ldrow (by rfl) 51 _ (by rfl) g10 (by rfl) 51 #[.int .i64 f.kind, .int .i64 f.frm, .int .i64 f.to, .int .u64 f.mine, .int .u64 f.yours, .int .u64 f.a, .int .u64 f.b, .int .i64 f.inode, .int .u64 f.iseq, .int .i64 f.ioff, .int .i64 f.bn.node, .int .u64 f.bn.seq, .int .i64 f.bn.off, .int .i64 f.bn.dest, .int .i64 f.bn.prio, .int .i64 f.bn.born, .int .i64 f.bn.life, .int .i64 f.bn.total, .string f.bn.data] (0, 0) _ k10 Try.underlying51 (by rfl) (by kernel_rfl) ?_) | (refine wpList_ldrow (by rfl) 31 _ (by rfl) g11 (by rfl) 31 #[.int .i64 q.node, .int .u64 q.theirs, .bool q.sure, .int .u64 q.old, .int .u64 q.s.g, .int .u64 q.s.n, .int .u64 q.s.r, .slice A2 q.s.sl.length a2, .int .u64 q.r.g, .int .u64 q.r.r, .int .u64 q.r.fl, .slice B2 q.r.tk.length b2, .slice C2 q.r.kp.length c2] (0, 0) _ k11 Try.underlying31 (by rfl) (by kernel_rfl) ?_))
    clear hl9 hl10 hl11
    refine (M2'.out _ _ RQ).mono ?_
    rintro e v5 ⟨V3, rfl, hV3, hb⟩
    replace k9 := k9.below hb
    replace k10 := k10.below hb
    replace k11 := k11.below hb
    replace RX := RX.below hb
    replace RQ := RQ.below hb
    have hB2 := bnext hB hb
    clear hB hb
    have hB := hB2
    clear hB2
    obtain ⟨A3, a3, B3, b3, C3, c3, rfl⟩ := hV3.frm
    have RR : PrAt (v5.alloc (.cells #[.int .i64 q.node, .int .u64 q.theirs, .bool q.sure, .int .u64 q.old, .int .u64 q.s.g, .int .u64 q.s.n, .int .u64 q.s.r, .slice A3 q.s.sl.length a3, .int .u64 q.r.g, .int .u64 q.r.r, .int .u64 q.r.fl, .slice B3 q.r.tk.length b3, .slice C3 q.r.kp.length c3] 31)) (.agg #[.int .i64 q.node, .int .u64 q.theirs, .bool q.sure, .int .u64 q.old, .int .u64 q.s.g, .int .u64 q.s.n, .int .u64 q.s.r, .slice A3 q.s.sl.length a3, .int .u64 q.r.g, .int .u64 q.r.r, .int .u64 q.r.fl, .slice B3 q.r.tk.length b3, .slice C3 q.r.kp.length c3]) q := (hV3.at).below (bal (Below.refl _ _) _)
    replace k9 := k9.alloc (.cells #[.int .i64 q.node, .int .u64 q.theirs, .bool q.sure, .int .u64 q.old, .int .u64 q.s.g, .int .u64 q.s.n, .int .u64 q.s.r, .slice A3 q.s.sl.length a3, .int .u64 q.r.g, .int .u64 q.r.r, .int .u64 q.r.fl, .slice B3 q.r.tk.length b3, .slice C3 q.r.kp.length c3] 31)
    replace k10 := k10.alloc (.cells #[.int .i64 q.node, .int .u64 q.theirs, .bool q.sure, .int .u64 q.old, .int .u64 q.s.g, .int .u64 q.s.n, .int .u64 q.s.r, .slice A3 q.s.sl.length a3, .int .u64 q.r.g, .int .u64 q.r.r, .int .u64 q.r.fl, .slice B3 q.r.tk.length b3, .slice C3 q.r.kp.length c3] 31)
    replace k11 := k11.alloc (.cells #[.int .i64 q.node, .int .u64 q.theirs, .bool q.sure, .int .u64 q.old, .int .u64 q.s.g, .int .u64 q.s.n, .int .u64 q.s.r, .slice A3 q.s.sl.length a3, .int .u64 q.r.g, .int .u64 q.r.r, .int .u64 q.r.fl, .slice B3 q.r.tk.length b3, .slice C3 q.r.kp.length c3] 31)
    replace RX := RX.below (bal (Below.refl _ _) (.cells #[.int .i64 q.node, .int .u64 q.theirs, .bool q.sure, .int .u64 q.old, .int .u64 q.s.g, .int .u64 q.s.n, .int .u64 q.s.r, .slice A3 q.s.sl.length a3, .int .u64 q.r.g, .int .u64 q.r.r, .int .u64 q.r.fl, .slice B3 q.r.tk.length b3, .slice C3 q.r.kp.length c3] 31))
    replace RQ := RQ.below (bal (Below.refl _ _) (.cells #[.int .i64 q.node, .int .u64 q.theirs, .bool q.sure, .int .u64 q.old, .int .u64 q.s.g, .int .u64 q.s.n, .int .u64 q.s.r, .slice A3 q.s.sl.length a3, .int .u64 q.r.g, .int .u64 q.r.r, .int .u64 q.r.fl, .slice B3 q.r.tk.length b3, .slice C3 q.r.kp.length c3] 31))
    have hl9 := k9.lt
    have hl10 := k10.lt
    have hl11 := k11.lt
    go_upto_region 5 with (go_big_may; first | (refine wpList_alloc_z (by rfl) 31 (by rfl) _ rfl #[.int .i64 0, .int .u64 0, .bool false, .int .u64 0, .int .u64 0, .int .u64 0, .int .u64 0, .slice none 0 0, .int .u64 0, .int .u64 0, .int .u64 0, .slice none 0 0, .slice none 0 0] (fun w => by kernel_rfl) ?_) | (refine wpList_store_new (by rfl) 31 _ _ (by rfl) v5 #[.int .i64 0, .int .u64 0, .bool false, .int .u64 0, .int .u64 0, .int .u64 0, .int .u64 0, .slice none 0 0, .int .u64 0, .int .u64 0, .int .u64 0, .slice none 0 0, .slice none 0 0] #[.int .i64 q.node, .int .u64 q.theirs, .bool q.sure, .int .u64 q.old, .int .u64 q.s.g, .int .u64 q.s.n, .int .u64 q.s.r, .slice A3 q.s.sl.length a3, .int .u64 q.r.g, .int .u64 q.r.r, .int .u64 q.r.fl, .slice B3 q.r.tk.length b3, .slice C3 q.r.kp.length c3] rfl (by rfl) (by rfl) (by kernel_rfl) rfl (by kernel_rfl) ?_))
    clear hl9 hl10 hl11
    have k15 := Blk.new v5 31 #[.int .i64 q.node, .int .u64 q.theirs, .bool q.sure, .int .u64 q.old, .int .u64 q.s.g, .int .u64 q.s.n, .int .u64 q.s.r, .slice A3 q.s.sl.length a3, .int .u64 q.r.g, .int .u64 q.r.r, .int .u64 q.r.fl, .slice B3 q.r.tk.length b3, .slice C3 q.r.kp.length c3]
    replace hB := bal hB (.cells #[.int .i64 q.node, .int .u64 q.theirs, .bool q.sure, .int .u64 q.old, .int .u64 q.s.g, .int .u64 q.s.n, .int .u64 q.s.r, .slice A3 q.s.sl.length a3, .int .u64 q.r.g, .int .u64 q.r.r, .int .u64 q.r.fl, .slice B3 q.r.tk.length b3, .slice C3 q.r.kp.length c3] 31)
    obtain ⟨g15, hg⟩ : ∃ g15, v5.heap.size = g15 := ⟨_, rfl⟩
    rw [hg] at k15 ⊢
    clear hg
    generalize v5.alloc (.cells #[.int .i64 q.node, .int .u64 q.theirs, .bool q.sure, .int .u64 q.old, .int .u64 q.s.g, .int .u64 q.s.n, .int .u64 q.s.r, .slice A3 q.s.sl.length a3, .int .u64 q.r.g, .int .u64 q.r.r, .int .u64 q.r.fl, .slice B3 q.r.tk.length b3, .slice C3 q.r.kp.length c3] 31) = v6 at k9 k10 k11 k15 hB RX RQ RR ⊢
    clear hV3
    have hl9 := k9.lt
    have hl10 := k10.lt
    have hl11 := k11.lt
    have hl15 := k15.lt
    obtain ⟨z9_0, z9_1, z9_2, z9_3, z9_4, z9_5, z9_6, z9_7, z9_8, z9_9, z9_10, z9_11, z9_12⟩ := k9.c13
    obtain ⟨z11_0, z11_1, z11_2, z11_3, z11_4, z11_5, z11_6, z11_7, z11_8, z11_9, z11_10, z11_11, z11_12⟩ := k11.c13
    go_wp2_with (first | (refine wpList_ldrow (by rfl) 31 _ (by rfl) g9 (by rfl) 31 #[.int .i64 q.node, .int .u64 q.theirs, .bool q.sure, .int .u64 q.old, .int .u64 q.s.g, .int .u64 q.s.n, .int .u64 q.s.r, .slice A1 q.s.sl.length a1, .int .u64 q.r.g, .int .u64 q.r.r, .int .u64 q.r.fl, .slice B1 q.r.tk.length b1, .slice C1 q.r.kp.length c1] (0, 0) _ k9 Try.underlying31 (by rfl) (by kernel_rfl) ?_) | (refine wpList_ldrow (by rfl) 51 _ (by rfl) g10 (by rfl) 51 #[.int .i64 f.kind, .int .i64 f.frm, .int .i64 f.to, .int .u64 f.mine, .int .u64 f.yours, .int .u64 f.a, .int .u64 f.b, .int .i64 f.inode, .int .u64 f.iseq, .int .i64 f.ioff, .int .i64 f.bn.node, .int .u64 f.bn.seq, .int .i64 f.bn.off, .int .i64 f.bn.dest, .int .i64 f.bn.prio, .int .i64 f.bn.born, .int .i64 f.bn.life, .int .i64 f.bn.total, .string f.bn.data] (0, 0) _ k10 Try.underlying51 (by rfl) (by kernel_rfl) ?_) | (refine wpList_ldrow (by rfl) 31 _ (by rfl) g11 (by rfl) 31 #[.int .i64 q.node, .int .u64 q.theirs, .bool q.sure, .int .u64 q.old, .int .u64 q.s.g, .int .u64 q.s.n, .int .u64 q.s.r, .slice A2 q.s.sl.length a2, .int .u64 q.r.g, .int .u64 q.r.r, .int .u64 q.r.fl, .slice B2 q.r.tk.length b2, .slice C2 q.r.kp.length c2] (0, 0) _ k11 Try.underlying31 (by rfl) (by kernel_rfl) ?_) | (refine wpList_ldrow (by rfl) 31 _ (by rfl) g15 (by rfl) 31 #[.int .i64 q.node, .int .u64 q.theirs, .bool q.sure, .int .u64 q.old, .int .u64 q.s.g, .int .u64 q.s.n, .int .u64 q.s.r, .slice A3 q.s.sl.length a3, .int .u64 q.r.g, .int .u64 q.r.r, .int .u64 q.r.fl, .slice B3 q.r.tk.length b3, .slice C3 q.r.kp.length c3] (0, 0) _ k15 Try.underlying31 (by rfl) (by kernel_rfl) ?_))
    clear z9_0 z9_1 z9_2 z9_3 z9_4 z9_5 z9_6 z9_7 z9_8 z9_9 z9_10 z9_11 z9_12
    clear z11_0 z11_1 z11_2 z11_3 z11_4 z11_5 z11_6 z11_7 z11_8 z11_9 z11_10 z11_11 z11_12
    clear hl9 hl10 hl11 hl15
    refine (CK'.out _ _ RQ).mono ?_
    rintro e v7 ⟨rfl, hb⟩
    replace k9 := k9.below hb
    replace k10 := k10.below hb
    replace k11 := k11.below hb
    replace k15 := k15.below hb
    replace RX := RX.below hb
    replace RQ := RQ.below hb
    replace RR := RR.below hb
    have hB2 := bnext hB hb
    clear hB hb
    have hB := hB2
    clear hB2
    have hl9 := k9.lt
    have hl10 := k10.lt
    have hl11 := k11.lt
    have hl15 := k15.lt
    go_wp2_with (first | (refine wpList_ldrow (by rfl) 31 _ (by rfl) g9 (by rfl) 31 #[.int .i64 q.node, .int .u64 q.theirs, .bool q.sure, .int .u64 q.old, .int .u64 q.s.g, .int .u64 q.s.n, .int .u64 q.s.r, .slice A1 q.s.sl.length a1, .int .u64 q.r.g, .int .u64 q.r.r, .int .u64 q.r.fl, .slice B1 q.r.tk.length b1, .slice C1 q.r.kp.length c1] (0, 0) _ k9 Try.underlying31 (by rfl) (by kernel_rfl) ?_) | (refine wpList_ldrow (by rfl) 51 _ (by rfl) g10 (by rfl) 51 #[.int .i64 f.kind, .int .i64 f.frm, .int .i64 f.to, .int .u64 f.mine, .int .u64 f.yours, .int .u64 f.a, .int .u64 f.b, .int .i64 f.inode, .int .u64 f.iseq, .int .i64 f.ioff, .int .i64 f.bn.node, .int .u64 f.bn.seq, .int .i64 f.bn.off, .int .i64 f.bn.dest, .int .i64 f.bn.prio, .int .i64 f.bn.born, .int .i64 f.bn.life, .int .i64 f.bn.total, .string f.bn.data] (0, 0) _ k10 Try.underlying51 (by rfl) (by kernel_rfl) ?_) | (refine wpList_ldrow (by rfl) 31 _ (by rfl) g11 (by rfl) 31 #[.int .i64 q.node, .int .u64 q.theirs, .bool q.sure, .int .u64 q.old, .int .u64 q.s.g, .int .u64 q.s.n, .int .u64 q.s.r, .slice A2 q.s.sl.length a2, .int .u64 q.r.g, .int .u64 q.r.r, .int .u64 q.r.fl, .slice B2 q.r.tk.length b2, .slice C2 q.r.kp.length c2] (0, 0) _ k11 Try.underlying31 (by rfl) (by kernel_rfl) ?_) | (refine wpList_ldrow (by rfl) 31 _ (by rfl) g15 (by rfl) 31 #[.int .i64 q.node, .int .u64 q.theirs, .bool q.sure, .int .u64 q.old, .int .u64 q.s.g, .int .u64 q.s.n, .int .u64 q.s.r, .slice A3 q.s.sl.length a3, .int .u64 q.r.g, .int .u64 q.r.r, .int .u64 q.r.fl, .slice B3 q.r.tk.length b3, .slice C3 q.r.kp.length c3] (0, 0) _ k15 Try.underlying31 (by rfl) (by kernel_rfl) ?_))
    clear hl9 hl10 hl11 hl15
    refine (SamePeer_same q _ _ _ RQ RR).mono ?_
    rintro e v8 ⟨rfl, hb⟩
    replace k9 := k9.below hb
    replace k10 := k10.below hb
    replace k11 := k11.below hb
    replace k15 := k15.below hb
    replace RX := RX.below hb
    replace RQ := RQ.below hb
    replace RR := RR.below hb
    have hB2 := bnext hB hb
    clear hB hb
    have hB := hB2
    clear hB2
    have hl9 := k9.lt
    have hl10 := k10.lt
    have hl11 := k11.lt
    have hl15 := k15.lt
    go_wp2_with (first | (refine wpList_ldrow (by rfl) 31 _ (by rfl) g9 (by rfl) 31 #[.int .i64 q.node, .int .u64 q.theirs, .bool q.sure, .int .u64 q.old, .int .u64 q.s.g, .int .u64 q.s.n, .int .u64 q.s.r, .slice A1 q.s.sl.length a1, .int .u64 q.r.g, .int .u64 q.r.r, .int .u64 q.r.fl, .slice B1 q.r.tk.length b1, .slice C1 q.r.kp.length c1] (0, 0) _ k9 Try.underlying31 (by rfl) (by kernel_rfl) ?_) | (refine wpList_ldrow (by rfl) 51 _ (by rfl) g10 (by rfl) 51 #[.int .i64 f.kind, .int .i64 f.frm, .int .i64 f.to, .int .u64 f.mine, .int .u64 f.yours, .int .u64 f.a, .int .u64 f.b, .int .i64 f.inode, .int .u64 f.iseq, .int .i64 f.ioff, .int .i64 f.bn.node, .int .u64 f.bn.seq, .int .i64 f.bn.off, .int .i64 f.bn.dest, .int .i64 f.bn.prio, .int .i64 f.bn.born, .int .i64 f.bn.life, .int .i64 f.bn.total, .string f.bn.data] (0, 0) _ k10 Try.underlying51 (by rfl) (by kernel_rfl) ?_) | (refine wpList_ldrow (by rfl) 31 _ (by rfl) g11 (by rfl) 31 #[.int .i64 q.node, .int .u64 q.theirs, .bool q.sure, .int .u64 q.old, .int .u64 q.s.g, .int .u64 q.s.n, .int .u64 q.s.r, .slice A2 q.s.sl.length a2, .int .u64 q.r.g, .int .u64 q.r.r, .int .u64 q.r.fl, .slice B2 q.r.tk.length b2, .slice C2 q.r.kp.length c2] (0, 0) _ k11 Try.underlying31 (by rfl) (by kernel_rfl) ?_) | (refine wpList_ldrow (by rfl) 31 _ (by rfl) g15 (by rfl) 31 #[.int .i64 q.node, .int .u64 q.theirs, .bool q.sure, .int .u64 q.old, .int .u64 q.s.g, .int .u64 q.s.n, .int .u64 q.s.r, .slice A3 q.s.sl.length a3, .int .u64 q.r.g, .int .u64 q.r.r, .int .u64 q.r.fl, .slice B3 q.r.tk.length b3, .slice C3 q.r.kp.length c3] (0, 0) _ k15 Try.underlying31 (by rfl) (by kernel_rfl) ?_))
    clear hl9 hl10 hl11 hl15
    refine (SamePeer_same q _ _ _ RX RQ).mono ?_
    rintro e v9 ⟨rfl, hb⟩
    replace k9 := k9.below hb
    replace k10 := k10.below hb
    replace k11 := k11.below hb
    replace k15 := k15.below hb
    replace RX := RX.below hb
    replace RQ := RQ.below hb
    replace RR := RR.below hb
    have hB2 := bnext hB hb
    clear hB hb
    have hB := hB2
    clear hB2
    have hl9 := k9.lt
    have hl10 := k10.lt
    have hl11 := k11.lt
    have hl15 := k15.lt
    go_wp2_with fail
    clear hl9 hl10 hl11 hl15
    refine (awake_any _).mono ?_
    rintro e v10 ⟨rfl, hb⟩
    replace k9 := k9.below hb
    replace k10 := k10.below hb
    replace k11 := k11.below hb
    replace k15 := k15.below hb
    replace RX := RX.below hb
    replace RQ := RQ.below hb
    replace RR := RR.below hb
    have hB2 := bnext hB hb
    clear hB hb
    have hB := hB2
    clear hB2
    go_wp2_with fail
    go_ret
    exact ⟨rfl, hB⟩
  · have hle : decide (q.theirs < p.theirs) = false := decide_eq_false (by omega)
    have hl9 := k9.lt
    have hl10 := k10.lt
    go_wp2_with (first | (refine wpList_ldrow (by rfl) 31 _ (by rfl) g9 (by rfl) 31 #[.int .i64 p.node, .int .u64 p.theirs, .bool p.sure, .int .u64 p.old, .int .u64 p.s.g, .int .u64 p.s.n, .int .u64 p.s.r, .slice A1 p.s.sl.length a1, .int .u64 p.r.g, .int .u64 p.r.r, .int .u64 p.r.fl, .slice B1 p.r.tk.length b1, .slice C1 p.r.kp.length c1] (0, 0) _ k9 Try.underlying31 (by rfl) (by kernel_rfl) ?_) | (refine wpList_ldrow (by rfl) 51 _ (by rfl) g10 (by rfl) 51 #[.int .i64 f.kind, .int .i64 f.frm, .int .i64 f.to, .int .u64 f.mine, .int .u64 f.yours, .int .u64 f.a, .int .u64 f.b, .int .i64 f.inode, .int .u64 f.iseq, .int .i64 f.ioff, .int .i64 f.bn.node, .int .u64 f.bn.seq, .int .i64 f.bn.off, .int .i64 f.bn.dest, .int .i64 f.bn.prio, .int .i64 f.bn.born, .int .i64 f.bn.life, .int .i64 f.bn.total, .string f.bn.data] (0, 0) _ k10 Try.underlying51 (by rfl) (by kernel_rfl) ?_))
    clear hl9 hl10
    refine (M1'.out _ _ RX).mono ?_
    rintro e v3 ⟨V2, rfl, hV2, hb⟩
    replace k9 := k9.below hb
    replace k10 := k10.below hb
    replace RX := RX.below hb
    have hB2 := bnext hB hb
    clear hB hb
    have hB := hB2
    clear hB2
    obtain ⟨A2, a2, B2, b2, C2, c2, rfl⟩ := hV2.frm
    have RQ : PrAt (v3.alloc (.cells #[.int .i64 q.node, .int .u64 q.theirs, .bool q.sure, .int .u64 q.old, .int .u64 q.s.g, .int .u64 q.s.n, .int .u64 q.s.r, .slice A2 q.s.sl.length a2, .int .u64 q.r.g, .int .u64 q.r.r, .int .u64 q.r.fl, .slice B2 q.r.tk.length b2, .slice C2 q.r.kp.length c2] 31)) (.agg #[.int .i64 q.node, .int .u64 q.theirs, .bool q.sure, .int .u64 q.old, .int .u64 q.s.g, .int .u64 q.s.n, .int .u64 q.s.r, .slice A2 q.s.sl.length a2, .int .u64 q.r.g, .int .u64 q.r.r, .int .u64 q.r.fl, .slice B2 q.r.tk.length b2, .slice C2 q.r.kp.length c2]) q := (hV2.at).below (bal (Below.refl _ _) _)
    replace k9 := k9.alloc (.cells #[.int .i64 q.node, .int .u64 q.theirs, .bool q.sure, .int .u64 q.old, .int .u64 q.s.g, .int .u64 q.s.n, .int .u64 q.s.r, .slice A2 q.s.sl.length a2, .int .u64 q.r.g, .int .u64 q.r.r, .int .u64 q.r.fl, .slice B2 q.r.tk.length b2, .slice C2 q.r.kp.length c2] 31)
    replace k10 := k10.alloc (.cells #[.int .i64 q.node, .int .u64 q.theirs, .bool q.sure, .int .u64 q.old, .int .u64 q.s.g, .int .u64 q.s.n, .int .u64 q.s.r, .slice A2 q.s.sl.length a2, .int .u64 q.r.g, .int .u64 q.r.r, .int .u64 q.r.fl, .slice B2 q.r.tk.length b2, .slice C2 q.r.kp.length c2] 31)
    replace RX := RX.below (bal (Below.refl _ _) (.cells #[.int .i64 q.node, .int .u64 q.theirs, .bool q.sure, .int .u64 q.old, .int .u64 q.s.g, .int .u64 q.s.n, .int .u64 q.s.r, .slice A2 q.s.sl.length a2, .int .u64 q.r.g, .int .u64 q.r.r, .int .u64 q.r.fl, .slice B2 q.r.tk.length b2, .slice C2 q.r.kp.length c2] 31))
    have hl9 := k9.lt
    have hl10 := k10.lt
    go_upto_region 4 with (go_big_may; first | (refine wpList_alloc_z (by rfl) 31 (by rfl) _ rfl #[.int .i64 0, .int .u64 0, .bool false, .int .u64 0, .int .u64 0, .int .u64 0, .int .u64 0, .slice none 0 0, .int .u64 0, .int .u64 0, .int .u64 0, .slice none 0 0, .slice none 0 0] (fun w => by kernel_rfl) ?_) | (refine wpList_store_new (by rfl) 31 _ _ (by rfl) v3 #[.int .i64 0, .int .u64 0, .bool false, .int .u64 0, .int .u64 0, .int .u64 0, .int .u64 0, .slice none 0 0, .int .u64 0, .int .u64 0, .int .u64 0, .slice none 0 0, .slice none 0 0] #[.int .i64 q.node, .int .u64 q.theirs, .bool q.sure, .int .u64 q.old, .int .u64 q.s.g, .int .u64 q.s.n, .int .u64 q.s.r, .slice A2 q.s.sl.length a2, .int .u64 q.r.g, .int .u64 q.r.r, .int .u64 q.r.fl, .slice B2 q.r.tk.length b2, .slice C2 q.r.kp.length c2] rfl (by rfl) (by rfl) (by kernel_rfl) rfl (by kernel_rfl) ?_))
    clear hl9 hl10
    have k11 := Blk.new v3 31 #[.int .i64 q.node, .int .u64 q.theirs, .bool q.sure, .int .u64 q.old, .int .u64 q.s.g, .int .u64 q.s.n, .int .u64 q.s.r, .slice A2 q.s.sl.length a2, .int .u64 q.r.g, .int .u64 q.r.r, .int .u64 q.r.fl, .slice B2 q.r.tk.length b2, .slice C2 q.r.kp.length c2]
    replace hB := bal hB (.cells #[.int .i64 q.node, .int .u64 q.theirs, .bool q.sure, .int .u64 q.old, .int .u64 q.s.g, .int .u64 q.s.n, .int .u64 q.s.r, .slice A2 q.s.sl.length a2, .int .u64 q.r.g, .int .u64 q.r.r, .int .u64 q.r.fl, .slice B2 q.r.tk.length b2, .slice C2 q.r.kp.length c2] 31)
    obtain ⟨g11, hg⟩ : ∃ g11, v3.heap.size = g11 := ⟨_, rfl⟩
    rw [hg] at k11 ⊢
    clear hg
    generalize v3.alloc (.cells #[.int .i64 q.node, .int .u64 q.theirs, .bool q.sure, .int .u64 q.old, .int .u64 q.s.g, .int .u64 q.s.n, .int .u64 q.s.r, .slice A2 q.s.sl.length a2, .int .u64 q.r.g, .int .u64 q.r.r, .int .u64 q.r.fl, .slice B2 q.r.tk.length b2, .slice C2 q.r.kp.length c2] 31) = v4 at k9 k10 k11 hB RX RQ ⊢
    clear hV2
    have hl9 := k9.lt
    have hl10 := k10.lt
    have hl11 := k11.lt
    go_wp2_with (first | (refine wpList_ldrow (by rfl) 31 _ (by rfl) g9 (by rfl) 31 #[.int .i64 p.node, .int .u64 p.theirs, .bool p.sure, .int .u64 p.old, .int .u64 p.s.g, .int .u64 p.s.n, .int .u64 p.s.r, .slice A1 p.s.sl.length a1, .int .u64 p.r.g, .int .u64 p.r.r, .int .u64 p.r.fl, .slice B1 p.r.tk.length b1, .slice C1 p.r.kp.length c1] (0, 0) _ k9 Try.underlying31 (by rfl) (by kernel_rfl) ?_) | (refine wpList_ldrow (by rfl) 51 _ (by rfl) g10 (by rfl) 51 #[.int .i64 f.kind, .int .i64 f.frm, .int .i64 f.to, .int .u64 f.mine, .int .u64 f.yours, .int .u64 f.a, .int .u64 f.b, .int .i64 f.inode, .int .u64 f.iseq, .int .i64 f.ioff, .int .i64 f.bn.node, .int .u64 f.bn.seq, .int .i64 f.bn.off, .int .i64 f.bn.dest, .int .i64 f.bn.prio, .int .i64 f.bn.born, .int .i64 f.bn.life, .int .i64 f.bn.total, .string f.bn.data] (0, 0) _ k10 Try.underlying51 (by rfl) (by kernel_rfl) ?_) | (refine wpList_ldrow (by rfl) 31 _ (by rfl) g11 (by rfl) 31 #[.int .i64 q.node, .int .u64 q.theirs, .bool q.sure, .int .u64 q.old, .int .u64 q.s.g, .int .u64 q.s.n, .int .u64 q.s.r, .slice A2 q.s.sl.length a2, .int .u64 q.r.g, .int .u64 q.r.r, .int .u64 q.r.fl, .slice B2 q.r.tk.length b2, .slice C2 q.r.kp.length c2] (0, 0) _ k11 Try.underlying31 (by rfl) (by kernel_rfl) ?_))
    clear hl9 hl10 hl11
    refine (M2'.out _ _ RQ).mono ?_
    rintro e v5 ⟨V3, rfl, hV3, hb⟩
    replace k9 := k9.below hb
    replace k10 := k10.below hb
    replace k11 := k11.below hb
    replace RX := RX.below hb
    replace RQ := RQ.below hb
    have hB2 := bnext hB hb
    clear hB hb
    have hB := hB2
    clear hB2
    obtain ⟨A3, a3, B3, b3, C3, c3, rfl⟩ := hV3.frm
    have RR : PrAt (v5.alloc (.cells #[.int .i64 q.node, .int .u64 q.theirs, .bool q.sure, .int .u64 q.old, .int .u64 q.s.g, .int .u64 q.s.n, .int .u64 q.s.r, .slice A3 q.s.sl.length a3, .int .u64 q.r.g, .int .u64 q.r.r, .int .u64 q.r.fl, .slice B3 q.r.tk.length b3, .slice C3 q.r.kp.length c3] 31)) (.agg #[.int .i64 q.node, .int .u64 q.theirs, .bool q.sure, .int .u64 q.old, .int .u64 q.s.g, .int .u64 q.s.n, .int .u64 q.s.r, .slice A3 q.s.sl.length a3, .int .u64 q.r.g, .int .u64 q.r.r, .int .u64 q.r.fl, .slice B3 q.r.tk.length b3, .slice C3 q.r.kp.length c3]) q := (hV3.at).below (bal (Below.refl _ _) _)
    replace k9 := k9.alloc (.cells #[.int .i64 q.node, .int .u64 q.theirs, .bool q.sure, .int .u64 q.old, .int .u64 q.s.g, .int .u64 q.s.n, .int .u64 q.s.r, .slice A3 q.s.sl.length a3, .int .u64 q.r.g, .int .u64 q.r.r, .int .u64 q.r.fl, .slice B3 q.r.tk.length b3, .slice C3 q.r.kp.length c3] 31)
    replace k10 := k10.alloc (.cells #[.int .i64 q.node, .int .u64 q.theirs, .bool q.sure, .int .u64 q.old, .int .u64 q.s.g, .int .u64 q.s.n, .int .u64 q.s.r, .slice A3 q.s.sl.length a3, .int .u64 q.r.g, .int .u64 q.r.r, .int .u64 q.r.fl, .slice B3 q.r.tk.length b3, .slice C3 q.r.kp.length c3] 31)
    replace k11 := k11.alloc (.cells #[.int .i64 q.node, .int .u64 q.theirs, .bool q.sure, .int .u64 q.old, .int .u64 q.s.g, .int .u64 q.s.n, .int .u64 q.s.r, .slice A3 q.s.sl.length a3, .int .u64 q.r.g, .int .u64 q.r.r, .int .u64 q.r.fl, .slice B3 q.r.tk.length b3, .slice C3 q.r.kp.length c3] 31)
    replace RX := RX.below (bal (Below.refl _ _) (.cells #[.int .i64 q.node, .int .u64 q.theirs, .bool q.sure, .int .u64 q.old, .int .u64 q.s.g, .int .u64 q.s.n, .int .u64 q.s.r, .slice A3 q.s.sl.length a3, .int .u64 q.r.g, .int .u64 q.r.r, .int .u64 q.r.fl, .slice B3 q.r.tk.length b3, .slice C3 q.r.kp.length c3] 31))
    replace RQ := RQ.below (bal (Below.refl _ _) (.cells #[.int .i64 q.node, .int .u64 q.theirs, .bool q.sure, .int .u64 q.old, .int .u64 q.s.g, .int .u64 q.s.n, .int .u64 q.s.r, .slice A3 q.s.sl.length a3, .int .u64 q.r.g, .int .u64 q.r.r, .int .u64 q.r.fl, .slice B3 q.r.tk.length b3, .slice C3 q.r.kp.length c3] 31))
    have hl9 := k9.lt
    have hl10 := k10.lt
    have hl11 := k11.lt
    go_upto_region 5 with (go_big_may; first | (refine wpList_alloc_z (by rfl) 31 (by rfl) _ rfl #[.int .i64 0, .int .u64 0, .bool false, .int .u64 0, .int .u64 0, .int .u64 0, .int .u64 0, .slice none 0 0, .int .u64 0, .int .u64 0, .int .u64 0, .slice none 0 0, .slice none 0 0] (fun w => by kernel_rfl) ?_) | (refine wpList_store_new (by rfl) 31 _ _ (by rfl) v5 #[.int .i64 0, .int .u64 0, .bool false, .int .u64 0, .int .u64 0, .int .u64 0, .int .u64 0, .slice none 0 0, .int .u64 0, .int .u64 0, .int .u64 0, .slice none 0 0, .slice none 0 0] #[.int .i64 q.node, .int .u64 q.theirs, .bool q.sure, .int .u64 q.old, .int .u64 q.s.g, .int .u64 q.s.n, .int .u64 q.s.r, .slice A3 q.s.sl.length a3, .int .u64 q.r.g, .int .u64 q.r.r, .int .u64 q.r.fl, .slice B3 q.r.tk.length b3, .slice C3 q.r.kp.length c3] rfl (by rfl) (by rfl) (by kernel_rfl) rfl (by kernel_rfl) ?_))
    clear hl9 hl10 hl11
    have k15 := Blk.new v5 31 #[.int .i64 q.node, .int .u64 q.theirs, .bool q.sure, .int .u64 q.old, .int .u64 q.s.g, .int .u64 q.s.n, .int .u64 q.s.r, .slice A3 q.s.sl.length a3, .int .u64 q.r.g, .int .u64 q.r.r, .int .u64 q.r.fl, .slice B3 q.r.tk.length b3, .slice C3 q.r.kp.length c3]
    replace hB := bal hB (.cells #[.int .i64 q.node, .int .u64 q.theirs, .bool q.sure, .int .u64 q.old, .int .u64 q.s.g, .int .u64 q.s.n, .int .u64 q.s.r, .slice A3 q.s.sl.length a3, .int .u64 q.r.g, .int .u64 q.r.r, .int .u64 q.r.fl, .slice B3 q.r.tk.length b3, .slice C3 q.r.kp.length c3] 31)
    obtain ⟨g15, hg⟩ : ∃ g15, v5.heap.size = g15 := ⟨_, rfl⟩
    rw [hg] at k15 ⊢
    clear hg
    generalize v5.alloc (.cells #[.int .i64 q.node, .int .u64 q.theirs, .bool q.sure, .int .u64 q.old, .int .u64 q.s.g, .int .u64 q.s.n, .int .u64 q.s.r, .slice A3 q.s.sl.length a3, .int .u64 q.r.g, .int .u64 q.r.r, .int .u64 q.r.fl, .slice B3 q.r.tk.length b3, .slice C3 q.r.kp.length c3] 31) = v6 at k9 k10 k11 k15 hB RX RQ RR ⊢
    clear hV3
    have hl9 := k9.lt
    have hl10 := k10.lt
    have hl11 := k11.lt
    have hl15 := k15.lt
    obtain ⟨z9_0, z9_1, z9_2, z9_3, z9_4, z9_5, z9_6, z9_7, z9_8, z9_9, z9_10, z9_11, z9_12⟩ := k9.c13
    obtain ⟨z11_0, z11_1, z11_2, z11_3, z11_4, z11_5, z11_6, z11_7, z11_8, z11_9, z11_10, z11_11, z11_12⟩ := k11.c13
    go_wp2_with (first | (refine wpList_ldrow (by rfl) 31 _ (by rfl) g9 (by rfl) 31 #[.int .i64 p.node, .int .u64 p.theirs, .bool p.sure, .int .u64 p.old, .int .u64 p.s.g, .int .u64 p.s.n, .int .u64 p.s.r, .slice A1 p.s.sl.length a1, .int .u64 p.r.g, .int .u64 p.r.r, .int .u64 p.r.fl, .slice B1 p.r.tk.length b1, .slice C1 p.r.kp.length c1] (0, 0) _ k9 Try.underlying31 (by rfl) (by kernel_rfl) ?_) | (refine wpList_ldrow (by rfl) 51 _ (by rfl) g10 (by rfl) 51 #[.int .i64 f.kind, .int .i64 f.frm, .int .i64 f.to, .int .u64 f.mine, .int .u64 f.yours, .int .u64 f.a, .int .u64 f.b, .int .i64 f.inode, .int .u64 f.iseq, .int .i64 f.ioff, .int .i64 f.bn.node, .int .u64 f.bn.seq, .int .i64 f.bn.off, .int .i64 f.bn.dest, .int .i64 f.bn.prio, .int .i64 f.bn.born, .int .i64 f.bn.life, .int .i64 f.bn.total, .string f.bn.data] (0, 0) _ k10 Try.underlying51 (by rfl) (by kernel_rfl) ?_) | (refine wpList_ldrow (by rfl) 31 _ (by rfl) g11 (by rfl) 31 #[.int .i64 q.node, .int .u64 q.theirs, .bool q.sure, .int .u64 q.old, .int .u64 q.s.g, .int .u64 q.s.n, .int .u64 q.s.r, .slice A2 q.s.sl.length a2, .int .u64 q.r.g, .int .u64 q.r.r, .int .u64 q.r.fl, .slice B2 q.r.tk.length b2, .slice C2 q.r.kp.length c2] (0, 0) _ k11 Try.underlying31 (by rfl) (by kernel_rfl) ?_) | (refine wpList_ldrow (by rfl) 31 _ (by rfl) g15 (by rfl) 31 #[.int .i64 q.node, .int .u64 q.theirs, .bool q.sure, .int .u64 q.old, .int .u64 q.s.g, .int .u64 q.s.n, .int .u64 q.s.r, .slice A3 q.s.sl.length a3, .int .u64 q.r.g, .int .u64 q.r.r, .int .u64 q.r.fl, .slice B3 q.r.tk.length b3, .slice C3 q.r.kp.length c3] (0, 0) _ k15 Try.underlying31 (by rfl) (by kernel_rfl) ?_))
    clear z9_0 z9_1 z9_2 z9_3 z9_4 z9_5 z9_6 z9_7 z9_8 z9_9 z9_10 z9_11 z9_12
    clear z11_0 z11_1 z11_2 z11_3 z11_4 z11_5 z11_6 z11_7 z11_8 z11_9 z11_10 z11_11 z11_12
    clear hl9 hl10 hl11 hl15
    refine (CK'.out _ _ RQ).mono ?_
    rintro e v7 ⟨rfl, hb⟩
    replace k9 := k9.below hb
    replace k10 := k10.below hb
    replace k11 := k11.below hb
    replace k15 := k15.below hb
    replace RX := RX.below hb
    replace RQ := RQ.below hb
    replace RR := RR.below hb
    have hB2 := bnext hB hb
    clear hB hb
    have hB := hB2
    clear hB2
    have hl9 := k9.lt
    have hl10 := k10.lt
    have hl11 := k11.lt
    have hl15 := k15.lt
    go_wp2_with (first | (refine wpList_ldrow (by rfl) 31 _ (by rfl) g9 (by rfl) 31 #[.int .i64 p.node, .int .u64 p.theirs, .bool p.sure, .int .u64 p.old, .int .u64 p.s.g, .int .u64 p.s.n, .int .u64 p.s.r, .slice A1 p.s.sl.length a1, .int .u64 p.r.g, .int .u64 p.r.r, .int .u64 p.r.fl, .slice B1 p.r.tk.length b1, .slice C1 p.r.kp.length c1] (0, 0) _ k9 Try.underlying31 (by rfl) (by kernel_rfl) ?_) | (refine wpList_ldrow (by rfl) 51 _ (by rfl) g10 (by rfl) 51 #[.int .i64 f.kind, .int .i64 f.frm, .int .i64 f.to, .int .u64 f.mine, .int .u64 f.yours, .int .u64 f.a, .int .u64 f.b, .int .i64 f.inode, .int .u64 f.iseq, .int .i64 f.ioff, .int .i64 f.bn.node, .int .u64 f.bn.seq, .int .i64 f.bn.off, .int .i64 f.bn.dest, .int .i64 f.bn.prio, .int .i64 f.bn.born, .int .i64 f.bn.life, .int .i64 f.bn.total, .string f.bn.data] (0, 0) _ k10 Try.underlying51 (by rfl) (by kernel_rfl) ?_) | (refine wpList_ldrow (by rfl) 31 _ (by rfl) g11 (by rfl) 31 #[.int .i64 q.node, .int .u64 q.theirs, .bool q.sure, .int .u64 q.old, .int .u64 q.s.g, .int .u64 q.s.n, .int .u64 q.s.r, .slice A2 q.s.sl.length a2, .int .u64 q.r.g, .int .u64 q.r.r, .int .u64 q.r.fl, .slice B2 q.r.tk.length b2, .slice C2 q.r.kp.length c2] (0, 0) _ k11 Try.underlying31 (by rfl) (by kernel_rfl) ?_) | (refine wpList_ldrow (by rfl) 31 _ (by rfl) g15 (by rfl) 31 #[.int .i64 q.node, .int .u64 q.theirs, .bool q.sure, .int .u64 q.old, .int .u64 q.s.g, .int .u64 q.s.n, .int .u64 q.s.r, .slice A3 q.s.sl.length a3, .int .u64 q.r.g, .int .u64 q.r.r, .int .u64 q.r.fl, .slice B3 q.r.tk.length b3, .slice C3 q.r.kp.length c3] (0, 0) _ k15 Try.underlying31 (by rfl) (by kernel_rfl) ?_))
    clear hl9 hl10 hl11 hl15
    refine (SamePeer_same q _ _ _ RQ RR).mono ?_
    rintro e v8 ⟨rfl, hb⟩
    replace k9 := k9.below hb
    replace k10 := k10.below hb
    replace k11 := k11.below hb
    replace k15 := k15.below hb
    replace RX := RX.below hb
    replace RQ := RQ.below hb
    replace RR := RR.below hb
    have hB2 := bnext hB hb
    clear hB hb
    have hB := hB2
    clear hB2
    have hl9 := k9.lt
    have hl10 := k10.lt
    have hl11 := k11.lt
    have hl15 := k15.lt
    go_wp2_with fail
    clear hl9 hl10 hl11 hl15
    refine (awake_any _).mono ?_
    rintro e v9 ⟨rfl, hb⟩
    replace k9 := k9.below hb
    replace k10 := k10.below hb
    replace k11 := k11.below hb
    replace k15 := k15.below hb
    replace RX := RX.below hb
    replace RQ := RQ.below hb
    replace RR := RR.below hb
    have hB2 := bnext hB hb
    clear hB hb
    have hB := hB2
    clear hB2
    go_wp2_with fail
    go_ret
    exact ⟨rfl, hB⟩
  · have hle : decide (q.theirs < p.theirs) = false := decide_eq_false (by omega)
    have hqs' := Lib.hid hqs
    have hqo' := Lib.hid hqo
    clear hqs hqo
    have hl9 := k9.lt
    have hl10 := k10.lt
    go_wp2_with (first | (refine wpList_ldrow (by rfl) 31 _ (by rfl) g9 (by rfl) 31 #[.int .i64 p.node, .int .u64 p.theirs, .bool p.sure, .int .u64 p.old, .int .u64 p.s.g, .int .u64 p.s.n, .int .u64 p.s.r, .slice A1 p.s.sl.length a1, .int .u64 p.r.g, .int .u64 p.r.r, .int .u64 p.r.fl, .slice B1 p.r.tk.length b1, .slice C1 p.r.kp.length c1] (0, 0) _ k9 Try.underlying31 (by rfl) (by kernel_rfl) ?_) | (refine wpList_ldrow (by rfl) 51 _ (by rfl) g10 (by rfl) 51 #[.int .i64 f.kind, .int .i64 f.frm, .int .i64 f.to, .int .u64 f.mine, .int .u64 f.yours, .int .u64 f.a, .int .u64 f.b, .int .i64 f.inode, .int .u64 f.iseq, .int .i64 f.ioff, .int .i64 f.bn.node, .int .u64 f.bn.seq, .int .i64 f.bn.off, .int .i64 f.bn.dest, .int .i64 f.bn.prio, .int .i64 f.bn.born, .int .i64 f.bn.life, .int .i64 f.bn.total, .string f.bn.data] (0, 0) _ k10 Try.underlying51 (by rfl) (by kernel_rfl) ?_))
    clear hl9 hl10
    refine (M1'.out _ _ RX).mono ?_
    rintro e v3 ⟨V2, rfl, hV2, hb⟩
    replace k9 := k9.below hb
    replace k10 := k10.below hb
    replace RX := RX.below hb
    have hB2 := bnext hB hb
    clear hB hb
    have hB := hB2
    clear hB2
    obtain ⟨A2, a2, B2, b2, C2, c2, rfl⟩ := hV2.frm
    rw [hqs'.out, hqo'.out] at hV2 ⊢
    have RQ : PrAt (v3.alloc (.cells #[.int .i64 q.node, .int .u64 q.theirs, .bool true, .int .u64 0, .int .u64 q.s.g, .int .u64 q.s.n, .int .u64 q.s.r, .slice A2 q.s.sl.length a2, .int .u64 q.r.g, .int .u64 q.r.r, .int .u64 q.r.fl, .slice B2 q.r.tk.length b2, .slice C2 q.r.kp.length c2] 31)) (.agg #[.int .i64 q.node, .int .u64 q.theirs, .bool true, .int .u64 0, .int .u64 q.s.g, .int .u64 q.s.n, .int .u64 q.s.r, .slice A2 q.s.sl.length a2, .int .u64 q.r.g, .int .u64 q.r.r, .int .u64 q.r.fl, .slice B2 q.r.tk.length b2, .slice C2 q.r.kp.length c2]) q := (hV2.at).below (bal (Below.refl _ _) _)
    replace k9 := k9.alloc (.cells #[.int .i64 q.node, .int .u64 q.theirs, .bool true, .int .u64 0, .int .u64 q.s.g, .int .u64 q.s.n, .int .u64 q.s.r, .slice A2 q.s.sl.length a2, .int .u64 q.r.g, .int .u64 q.r.r, .int .u64 q.r.fl, .slice B2 q.r.tk.length b2, .slice C2 q.r.kp.length c2] 31)
    replace k10 := k10.alloc (.cells #[.int .i64 q.node, .int .u64 q.theirs, .bool true, .int .u64 0, .int .u64 q.s.g, .int .u64 q.s.n, .int .u64 q.s.r, .slice A2 q.s.sl.length a2, .int .u64 q.r.g, .int .u64 q.r.r, .int .u64 q.r.fl, .slice B2 q.r.tk.length b2, .slice C2 q.r.kp.length c2] 31)
    replace RX := RX.below (bal (Below.refl _ _) (.cells #[.int .i64 q.node, .int .u64 q.theirs, .bool true, .int .u64 0, .int .u64 q.s.g, .int .u64 q.s.n, .int .u64 q.s.r, .slice A2 q.s.sl.length a2, .int .u64 q.r.g, .int .u64 q.r.r, .int .u64 q.r.fl, .slice B2 q.r.tk.length b2, .slice C2 q.r.kp.length c2] 31))
    have hl9 := k9.lt
    have hl10 := k10.lt
    go_upto_region 4 with (go_big_may; first | (refine wpList_alloc_z (by rfl) 31 (by rfl) _ rfl #[.int .i64 0, .int .u64 0, .bool false, .int .u64 0, .int .u64 0, .int .u64 0, .int .u64 0, .slice none 0 0, .int .u64 0, .int .u64 0, .int .u64 0, .slice none 0 0, .slice none 0 0] (fun w => by kernel_rfl) ?_) | (refine wpList_store_new (by rfl) 31 _ _ (by rfl) v3 #[.int .i64 0, .int .u64 0, .bool false, .int .u64 0, .int .u64 0, .int .u64 0, .int .u64 0, .slice none 0 0, .int .u64 0, .int .u64 0, .int .u64 0, .slice none 0 0, .slice none 0 0] #[.int .i64 q.node, .int .u64 q.theirs, .bool true, .int .u64 0, .int .u64 q.s.g, .int .u64 q.s.n, .int .u64 q.s.r, .slice A2 q.s.sl.length a2, .int .u64 q.r.g, .int .u64 q.r.r, .int .u64 q.r.fl, .slice B2 q.r.tk.length b2, .slice C2 q.r.kp.length c2] rfl (by rfl) (by rfl) (by kernel_rfl) rfl (by kernel_rfl) ?_))
    clear hl9 hl10
    have k11 := Blk.new v3 31 #[.int .i64 q.node, .int .u64 q.theirs, .bool true, .int .u64 0, .int .u64 q.s.g, .int .u64 q.s.n, .int .u64 q.s.r, .slice A2 q.s.sl.length a2, .int .u64 q.r.g, .int .u64 q.r.r, .int .u64 q.r.fl, .slice B2 q.r.tk.length b2, .slice C2 q.r.kp.length c2]
    replace hB := bal hB (.cells #[.int .i64 q.node, .int .u64 q.theirs, .bool true, .int .u64 0, .int .u64 q.s.g, .int .u64 q.s.n, .int .u64 q.s.r, .slice A2 q.s.sl.length a2, .int .u64 q.r.g, .int .u64 q.r.r, .int .u64 q.r.fl, .slice B2 q.r.tk.length b2, .slice C2 q.r.kp.length c2] 31)
    obtain ⟨g11, hg⟩ : ∃ g11, v3.heap.size = g11 := ⟨_, rfl⟩
    rw [hg] at k11 ⊢
    clear hg
    generalize v3.alloc (.cells #[.int .i64 q.node, .int .u64 q.theirs, .bool true, .int .u64 0, .int .u64 q.s.g, .int .u64 q.s.n, .int .u64 q.s.r, .slice A2 q.s.sl.length a2, .int .u64 q.r.g, .int .u64 q.r.r, .int .u64 q.r.fl, .slice B2 q.r.tk.length b2, .slice C2 q.r.kp.length c2] 31) = v4 at k9 k10 k11 hB RX RQ ⊢
    clear hV2
    have hl9 := k9.lt
    have hl10 := k10.lt
    have hl11 := k11.lt
    go_wp2_with (first | (refine wpList_ldrow (by rfl) 31 _ (by rfl) g9 (by rfl) 31 #[.int .i64 p.node, .int .u64 p.theirs, .bool p.sure, .int .u64 p.old, .int .u64 p.s.g, .int .u64 p.s.n, .int .u64 p.s.r, .slice A1 p.s.sl.length a1, .int .u64 p.r.g, .int .u64 p.r.r, .int .u64 p.r.fl, .slice B1 p.r.tk.length b1, .slice C1 p.r.kp.length c1] (0, 0) _ k9 Try.underlying31 (by rfl) (by kernel_rfl) ?_) | (refine wpList_ldrow (by rfl) 51 _ (by rfl) g10 (by rfl) 51 #[.int .i64 f.kind, .int .i64 f.frm, .int .i64 f.to, .int .u64 f.mine, .int .u64 f.yours, .int .u64 f.a, .int .u64 f.b, .int .i64 f.inode, .int .u64 f.iseq, .int .i64 f.ioff, .int .i64 f.bn.node, .int .u64 f.bn.seq, .int .i64 f.bn.off, .int .i64 f.bn.dest, .int .i64 f.bn.prio, .int .i64 f.bn.born, .int .i64 f.bn.life, .int .i64 f.bn.total, .string f.bn.data] (0, 0) _ k10 Try.underlying51 (by rfl) (by kernel_rfl) ?_) | (refine wpList_ldrow (by rfl) 31 _ (by rfl) g11 (by rfl) 31 #[.int .i64 q.node, .int .u64 q.theirs, .bool true, .int .u64 0, .int .u64 q.s.g, .int .u64 q.s.n, .int .u64 q.s.r, .slice A2 q.s.sl.length a2, .int .u64 q.r.g, .int .u64 q.r.r, .int .u64 q.r.fl, .slice B2 q.r.tk.length b2, .slice C2 q.r.kp.length c2] (0, 0) _ k11 Try.underlying31 (by rfl) (by kernel_rfl) ?_))
    clear hl9 hl10 hl11
    refine (M2'.out _ _ RQ).mono ?_
    rintro e v5 ⟨V3, rfl, hV3, hb⟩
    replace k9 := k9.below hb
    replace k10 := k10.below hb
    replace k11 := k11.below hb
    replace RX := RX.below hb
    replace RQ := RQ.below hb
    have hB2 := bnext hB hb
    clear hB hb
    have hB := hB2
    clear hB2
    obtain ⟨A3, a3, B3, b3, C3, c3, rfl⟩ := hV3.frm
    rw [hqs'.out, hqo'.out] at hV3 ⊢
    have RR : PrAt (v5.alloc (.cells #[.int .i64 q.node, .int .u64 q.theirs, .bool true, .int .u64 0, .int .u64 q.s.g, .int .u64 q.s.n, .int .u64 q.s.r, .slice A3 q.s.sl.length a3, .int .u64 q.r.g, .int .u64 q.r.r, .int .u64 q.r.fl, .slice B3 q.r.tk.length b3, .slice C3 q.r.kp.length c3] 31)) (.agg #[.int .i64 q.node, .int .u64 q.theirs, .bool true, .int .u64 0, .int .u64 q.s.g, .int .u64 q.s.n, .int .u64 q.s.r, .slice A3 q.s.sl.length a3, .int .u64 q.r.g, .int .u64 q.r.r, .int .u64 q.r.fl, .slice B3 q.r.tk.length b3, .slice C3 q.r.kp.length c3]) q := (hV3.at).below (bal (Below.refl _ _) _)
    replace k9 := k9.alloc (.cells #[.int .i64 q.node, .int .u64 q.theirs, .bool true, .int .u64 0, .int .u64 q.s.g, .int .u64 q.s.n, .int .u64 q.s.r, .slice A3 q.s.sl.length a3, .int .u64 q.r.g, .int .u64 q.r.r, .int .u64 q.r.fl, .slice B3 q.r.tk.length b3, .slice C3 q.r.kp.length c3] 31)
    replace k10 := k10.alloc (.cells #[.int .i64 q.node, .int .u64 q.theirs, .bool true, .int .u64 0, .int .u64 q.s.g, .int .u64 q.s.n, .int .u64 q.s.r, .slice A3 q.s.sl.length a3, .int .u64 q.r.g, .int .u64 q.r.r, .int .u64 q.r.fl, .slice B3 q.r.tk.length b3, .slice C3 q.r.kp.length c3] 31)
    replace k11 := k11.alloc (.cells #[.int .i64 q.node, .int .u64 q.theirs, .bool true, .int .u64 0, .int .u64 q.s.g, .int .u64 q.s.n, .int .u64 q.s.r, .slice A3 q.s.sl.length a3, .int .u64 q.r.g, .int .u64 q.r.r, .int .u64 q.r.fl, .slice B3 q.r.tk.length b3, .slice C3 q.r.kp.length c3] 31)
    replace RX := RX.below (bal (Below.refl _ _) (.cells #[.int .i64 q.node, .int .u64 q.theirs, .bool true, .int .u64 0, .int .u64 q.s.g, .int .u64 q.s.n, .int .u64 q.s.r, .slice A3 q.s.sl.length a3, .int .u64 q.r.g, .int .u64 q.r.r, .int .u64 q.r.fl, .slice B3 q.r.tk.length b3, .slice C3 q.r.kp.length c3] 31))
    replace RQ := RQ.below (bal (Below.refl _ _) (.cells #[.int .i64 q.node, .int .u64 q.theirs, .bool true, .int .u64 0, .int .u64 q.s.g, .int .u64 q.s.n, .int .u64 q.s.r, .slice A3 q.s.sl.length a3, .int .u64 q.r.g, .int .u64 q.r.r, .int .u64 q.r.fl, .slice B3 q.r.tk.length b3, .slice C3 q.r.kp.length c3] 31))
    have hl9 := k9.lt
    have hl10 := k10.lt
    have hl11 := k11.lt
    go_upto_region 5 with (go_big_may; first | (refine wpList_alloc_z (by rfl) 31 (by rfl) _ rfl #[.int .i64 0, .int .u64 0, .bool false, .int .u64 0, .int .u64 0, .int .u64 0, .int .u64 0, .slice none 0 0, .int .u64 0, .int .u64 0, .int .u64 0, .slice none 0 0, .slice none 0 0] (fun w => by kernel_rfl) ?_) | (refine wpList_store_new (by rfl) 31 _ _ (by rfl) v5 #[.int .i64 0, .int .u64 0, .bool false, .int .u64 0, .int .u64 0, .int .u64 0, .int .u64 0, .slice none 0 0, .int .u64 0, .int .u64 0, .int .u64 0, .slice none 0 0, .slice none 0 0] #[.int .i64 q.node, .int .u64 q.theirs, .bool true, .int .u64 0, .int .u64 q.s.g, .int .u64 q.s.n, .int .u64 q.s.r, .slice A3 q.s.sl.length a3, .int .u64 q.r.g, .int .u64 q.r.r, .int .u64 q.r.fl, .slice B3 q.r.tk.length b3, .slice C3 q.r.kp.length c3] rfl (by rfl) (by rfl) (by kernel_rfl) rfl (by kernel_rfl) ?_))
    clear hl9 hl10 hl11
    have k15 := Blk.new v5 31 #[.int .i64 q.node, .int .u64 q.theirs, .bool true, .int .u64 0, .int .u64 q.s.g, .int .u64 q.s.n, .int .u64 q.s.r, .slice A3 q.s.sl.length a3, .int .u64 q.r.g, .int .u64 q.r.r, .int .u64 q.r.fl, .slice B3 q.r.tk.length b3, .slice C3 q.r.kp.length c3]
    replace hB := bal hB (.cells #[.int .i64 q.node, .int .u64 q.theirs, .bool true, .int .u64 0, .int .u64 q.s.g, .int .u64 q.s.n, .int .u64 q.s.r, .slice A3 q.s.sl.length a3, .int .u64 q.r.g, .int .u64 q.r.r, .int .u64 q.r.fl, .slice B3 q.r.tk.length b3, .slice C3 q.r.kp.length c3] 31)
    obtain ⟨g15, hg⟩ : ∃ g15, v5.heap.size = g15 := ⟨_, rfl⟩
    rw [hg] at k15 ⊢
    clear hg
    generalize v5.alloc (.cells #[.int .i64 q.node, .int .u64 q.theirs, .bool true, .int .u64 0, .int .u64 q.s.g, .int .u64 q.s.n, .int .u64 q.s.r, .slice A3 q.s.sl.length a3, .int .u64 q.r.g, .int .u64 q.r.r, .int .u64 q.r.fl, .slice B3 q.r.tk.length b3, .slice C3 q.r.kp.length c3] 31) = v6 at k9 k10 k11 k15 hB RX RQ RR ⊢
    clear hV3
    have hl9 := k9.lt
    have hl10 := k10.lt
    have hl11 := k11.lt
    have hl15 := k15.lt
    obtain ⟨z9_0, z9_1, z9_2, z9_3, z9_4, z9_5, z9_6, z9_7, z9_8, z9_9, z9_10, z9_11, z9_12⟩ := k9.c13
    obtain ⟨z11_0, z11_1, z11_2, z11_3, z11_4, z11_5, z11_6, z11_7, z11_8, z11_9, z11_10, z11_11, z11_12⟩ := k11.c13
    go_wp2_with (first | (refine wpList_ldrow (by rfl) 31 _ (by rfl) g9 (by rfl) 31 #[.int .i64 p.node, .int .u64 p.theirs, .bool p.sure, .int .u64 p.old, .int .u64 p.s.g, .int .u64 p.s.n, .int .u64 p.s.r, .slice A1 p.s.sl.length a1, .int .u64 p.r.g, .int .u64 p.r.r, .int .u64 p.r.fl, .slice B1 p.r.tk.length b1, .slice C1 p.r.kp.length c1] (0, 0) _ k9 Try.underlying31 (by rfl) (by kernel_rfl) ?_) | (refine wpList_ldrow (by rfl) 51 _ (by rfl) g10 (by rfl) 51 #[.int .i64 f.kind, .int .i64 f.frm, .int .i64 f.to, .int .u64 f.mine, .int .u64 f.yours, .int .u64 f.a, .int .u64 f.b, .int .i64 f.inode, .int .u64 f.iseq, .int .i64 f.ioff, .int .i64 f.bn.node, .int .u64 f.bn.seq, .int .i64 f.bn.off, .int .i64 f.bn.dest, .int .i64 f.bn.prio, .int .i64 f.bn.born, .int .i64 f.bn.life, .int .i64 f.bn.total, .string f.bn.data] (0, 0) _ k10 Try.underlying51 (by rfl) (by kernel_rfl) ?_) | (refine wpList_ldrow (by rfl) 31 _ (by rfl) g11 (by rfl) 31 #[.int .i64 q.node, .int .u64 q.theirs, .bool true, .int .u64 0, .int .u64 q.s.g, .int .u64 q.s.n, .int .u64 q.s.r, .slice A2 q.s.sl.length a2, .int .u64 q.r.g, .int .u64 q.r.r, .int .u64 q.r.fl, .slice B2 q.r.tk.length b2, .slice C2 q.r.kp.length c2] (0, 0) _ k11 Try.underlying31 (by rfl) (by kernel_rfl) ?_) | (refine wpList_ldrow (by rfl) 31 _ (by rfl) g15 (by rfl) 31 #[.int .i64 q.node, .int .u64 q.theirs, .bool true, .int .u64 0, .int .u64 q.s.g, .int .u64 q.s.n, .int .u64 q.s.r, .slice A3 q.s.sl.length a3, .int .u64 q.r.g, .int .u64 q.r.r, .int .u64 q.r.fl, .slice B3 q.r.tk.length b3, .slice C3 q.r.kp.length c3] (0, 0) _ k15 Try.underlying31 (by rfl) (by kernel_rfl) ?_))
    clear z9_0 z9_1 z9_2 z9_3 z9_4 z9_5 z9_6 z9_7 z9_8 z9_9 z9_10 z9_11 z9_12
    clear z11_0 z11_1 z11_2 z11_3 z11_4 z11_5 z11_6 z11_7 z11_8 z11_9 z11_10 z11_11 z11_12
    clear hl9 hl10 hl11 hl15
    refine (CK'.out _ _ RQ).mono ?_
    rintro e v7 ⟨rfl, hb⟩
    replace k9 := k9.below hb
    replace k10 := k10.below hb
    replace k11 := k11.below hb
    replace k15 := k15.below hb
    replace RX := RX.below hb
    replace RQ := RQ.below hb
    replace RR := RR.below hb
    have hB2 := bnext hB hb
    clear hB hb
    have hB := hB2
    clear hB2
    have hl9 := k9.lt
    have hl10 := k10.lt
    have hl11 := k11.lt
    have hl15 := k15.lt
    go_wp2_with (first | (refine wpList_ldrow (by rfl) 31 _ (by rfl) g9 (by rfl) 31 #[.int .i64 p.node, .int .u64 p.theirs, .bool p.sure, .int .u64 p.old, .int .u64 p.s.g, .int .u64 p.s.n, .int .u64 p.s.r, .slice A1 p.s.sl.length a1, .int .u64 p.r.g, .int .u64 p.r.r, .int .u64 p.r.fl, .slice B1 p.r.tk.length b1, .slice C1 p.r.kp.length c1] (0, 0) _ k9 Try.underlying31 (by rfl) (by kernel_rfl) ?_) | (refine wpList_ldrow (by rfl) 51 _ (by rfl) g10 (by rfl) 51 #[.int .i64 f.kind, .int .i64 f.frm, .int .i64 f.to, .int .u64 f.mine, .int .u64 f.yours, .int .u64 f.a, .int .u64 f.b, .int .i64 f.inode, .int .u64 f.iseq, .int .i64 f.ioff, .int .i64 f.bn.node, .int .u64 f.bn.seq, .int .i64 f.bn.off, .int .i64 f.bn.dest, .int .i64 f.bn.prio, .int .i64 f.bn.born, .int .i64 f.bn.life, .int .i64 f.bn.total, .string f.bn.data] (0, 0) _ k10 Try.underlying51 (by rfl) (by kernel_rfl) ?_) | (refine wpList_ldrow (by rfl) 31 _ (by rfl) g11 (by rfl) 31 #[.int .i64 q.node, .int .u64 q.theirs, .bool true, .int .u64 0, .int .u64 q.s.g, .int .u64 q.s.n, .int .u64 q.s.r, .slice A2 q.s.sl.length a2, .int .u64 q.r.g, .int .u64 q.r.r, .int .u64 q.r.fl, .slice B2 q.r.tk.length b2, .slice C2 q.r.kp.length c2] (0, 0) _ k11 Try.underlying31 (by rfl) (by kernel_rfl) ?_) | (refine wpList_ldrow (by rfl) 31 _ (by rfl) g15 (by rfl) 31 #[.int .i64 q.node, .int .u64 q.theirs, .bool true, .int .u64 0, .int .u64 q.s.g, .int .u64 q.s.n, .int .u64 q.s.r, .slice A3 q.s.sl.length a3, .int .u64 q.r.g, .int .u64 q.r.r, .int .u64 q.r.fl, .slice B3 q.r.tk.length b3, .slice C3 q.r.kp.length c3] (0, 0) _ k15 Try.underlying31 (by rfl) (by kernel_rfl) ?_))
    clear hl9 hl10 hl11 hl15
    refine (SamePeer_same q _ _ _ RQ RR).mono ?_
    rintro e v8 ⟨rfl, hb⟩
    replace k9 := k9.below hb
    replace k10 := k10.below hb
    replace k11 := k11.below hb
    replace k15 := k15.below hb
    replace RX := RX.below hb
    replace RQ := RQ.below hb
    replace RR := RR.below hb
    have hB2 := bnext hB hb
    clear hB hb
    have hB := hB2
    clear hB2
    have hl9 := k9.lt
    have hl10 := k10.lt
    have hl11 := k11.lt
    have hl15 := k15.lt
    obtain ⟨z11_0, z11_1, z11_2, z11_3, z11_4, z11_5, z11_6, z11_7, z11_8, z11_9, z11_10, z11_11, z11_12⟩ := k11.c13
    go_wp2_with fail
    clear z11_0 z11_1 z11_2 z11_3 z11_4 z11_5 z11_6 z11_7 z11_8 z11_9 z11_10 z11_11 z11_12
    clear hl9 hl10 hl11 hl15
    refine (awake_any _).mono ?_
    rintro e v9 ⟨rfl, hb⟩
    replace k9 := k9.below hb
    replace k10 := k10.below hb
    replace k11 := k11.below hb
    replace k15 := k15.below hb
    replace RX := RX.below hb
    replace RQ := RQ.below hb
    replace RR := RR.below hb
    have hB2 := bnext hB hb
    clear hB hb
    have hB := hB2
    clear hB2
    go_wp2_with fail
    go_ret
    exact ⟨rfl, hB⟩

end Go.Proofs.Ytfgkkflbpfocjaa

namespace Go.Proofs.Ytfgkkflbpfocjaa
open Go.RowKit Go.ChangeShapes Go.WideShapes Go.Deep
set_option linter.unusedVariables false
set_option linter.unusedSimpArgs false
set_option maxRecDepth 100000

def one1 (x : Int) : List Value := [.int .i64 x]
theorem ints_fl (l : List Int) : ints l = fl one1 l := by
  induction l with
  | nil => rfl
  | cons x l ih => show Value.int .i64 x :: ints l = [.int .i64 x] ++ fl one1 l; rw [ih]; rfl

theorem open_ints {H : Type} {enc : TypeId × Value → H} {w : World} {base : Nat} {v : Value} {d : DataW H} {p : List MemPlace} (hv : Value.okWide Try.prog w .any base 38 v) (h : DataW.Trod enc Try.prog w 0 (fun _ => true) true 38 v d p) :
    ∃ l : List Int, SlAt w 1 v l.length (ints l) := by
  obtain ⟨A, n, c, rfl⟩ := okWide_slice Try.underlying38 hv
  obtain ⟨fuel, hf⟩ := h
  rcases open_slice Try.underlying38 (show DataW.trod enc Try.prog w 0 (fun _ => true) true fuel 38 [.slice A n c] = some (d, p) from hf) with ⟨hcs, _⟩ | ⟨a, len, cap, m, nn, D, Pl, hcs, hb, hl, hm, hmm, hx, hi⟩
  · simp at hcs
    obtain ⟨rfl, rfl, rfl⟩ := hcs
    exact ⟨[], SlAt.nil w 1⟩
  · simp at hcs
    obtain ⟨rfl, rfl, rfl⟩ := hcs
    have hnm : n ≤ m := by rw [hmm]; split <;> omega
    obtain ⟨l, hll, hP⟩ := list_of (P := fun i (x : Int) => w.cell? (a.add (i * 1)) = some (.int .i64 x)) n (fun i hin => by
      obtain ⟨cs', hc, ht'⟩ := hi i (by omega)
      rw [cellsInt] at hc
      obtain ⟨_, hcl, hat⟩ := World.cells?_some hc
      match cs', hcl with
      | [v0], _ =>
        obtain ⟨n0, e0, _, _⟩ := DataW.trod_int Try.underlying3 ht'
        simp only [List.cons.injEq, and_true] at e0
        subst e0
        refine ⟨n0, ?_⟩
        have := hat 0 (by decide)
        simpa [Addr.add] using this)
    refine ⟨l, some a, c, by rw [hll], by rw [hll]; exact hl, hm, ?_⟩
    rw [ints_fl]
    refine reads_of (f := one1) (k := 1) (fun _ => rfl) (by decide) (fun i x hx j u hj => ?_)
    have hj1 : j < 1 := (List.getElem?_eq_some_iff.1 hj).1
    obtain rfl : j = 0 := by omega
    have := hP i x hx
    cases hj
    exact this
end Go.Proofs.Ytfgkkflbpfocjaa

