/- Restarts, and frames to a neighbour. -/
import Derived.Test.YtfgkkflbpfocjaaZc39
namespace Go.Proofs.Ytfgkkflbpfocjaa
open Go.RowKit
set_option linter.unusedVariables false
set_option linter.unusedSimpArgs false

def gfr (p : Pr) (node boot kind a b : Int) : Fr := if begE p node boot kind = 0 then frB p node boot kind a b else zFr
def RetFE (f : Fr) (er : Int) (w : World) (e : Ending) (w' : World) : Prop := e = .returned (.tuple #[f.val, .int .i64 er]) ∧ Below w.heap.size w w'
def RetPE (p : Pr) (er : Int) (w : World) (e : Ending) (w' : World) : Prop := ∃ V, e = .returned (.tuple #[V, .int .i64 er]) ∧ PrB w.heap.size w' V p ∧ Below w.heap.size w w'
theorem eqb_t {k n : Int} (h : k = n) : (k == n) = true := by simpa using h
theorem eqb_f {k n : Int} (h : ¬ k = n) : (k == n) = false := by simpa using h
theorem neb_t {k n : Int} (h : ¬ k = n) : (k != n) = true := by simpa using h
theorem neb_f {k n : Int} (h : k = n) : (k != n) = false := by simpa using h

theorem Restart_any (p : Pr) (hw : WfP p) (V : Value) (w : World) (hV : PrAt w V p) (c1 : chkP p = 0) (c2 : ¬ 1125899906842624 < heldP p) : Calls Try.prog 27 #[V] w (RetPE (rstE p).1 (rstE p).2 w) := by
  have PC := fun w' (hb : Below w.heap.size w w') => pCheck_any p hw V w' (hV.below hb)
  have HV := hV
  obtain ⟨vs, vt, vk, rfl, hs, ht, hk⟩ := hV
  obtain ⟨As, cs, rfl⟩ := hs.form
  obtain ⟨At, ct, rfl⟩ := ht.form
  obtain ⟨Ak, ck, rfl⟩ := hk.form
  unfold rstE
  have HE := fun w' (hb : Below w.heap.size w w') => pheld_any p hw c1 _ w' (HV.below hb)
  rw [c1] at PC
  rw [if_neg (by omega), if_neg c2]
  refine (pr_k p.node p.theirs p.old p.sure p.s.g p.s.n p.s.r p.s.sl.length cs As p.r.g p.r.r p.r.fl p.r.tk.length ct At p.r.kp.length ck Ak w PC (heldP p) HE c2).mono ?_
  rintro e w' ⟨rfl, hb⟩
  exact ⟨_, rfl, zPr_at' _ w' _ _ _ _, hb⟩
theorem begin_any (p : Pr) (hw : WfP p) (node boot kind : Int) (V : Value) (w : World) (hV : PrAt w V p) (c1 : chkP p = 0) (hn : ¬ (node < 1 ∨ 16 < node ∨ node = p.node ∨ ¬ bootOk boot)) : Calls Try.prog 70 #[V, .int .i64 node, .int .u64 boot, .int .i64 kind] w (RetFE (gfr p node boot kind 0 0) (begE p node boot kind) w) := by
  have PC := fun w' (hb : Below w.heap.size w w') => pCheck_any p hw V w' (hV.below hb)
  obtain ⟨vs, vt, vk, rfl, hs, ht, hk⟩ := hV
  obtain ⟨As, cs, rfl⟩ := hs.form
  obtain ⟨At, ct, rfl⟩ := ht.form
  obtain ⟨Ak, ck, rfl⟩ := hk.form
  have hE : begE p node boot kind = if chkP p ≠ 0 then chkP p else if node < 1 ∨ 16 < node ∨ node = p.node ∨ ¬ bootOk boot then 2 else if kind ≠ 1 ∧ p.theirs = 0 then 13 else 0 := rfl
  have hz : begE p node boot kind ≠ 0 → gfr p node boot kind 0 0 = zFr := fun h => if_neg h
  have hk : begE p node boot kind = 0 → gfr p node boot kind 0 0 = frB p node boot kind 0 0 := fun h => if_pos h
  rw [c1] at PC
  rw [if_neg (by omega), if_neg hn] at hE
  have n1 : ¬ node < 1 := fun c => hn (.inl c)
  have n2 : ¬ node > 16 := fun c => hn (.inr (.inl c))
  have n3 : ¬ node = p.node := fun c => hn (.inr (.inr (.inl c)))
  have hbo : bootOk boot := Decidable.of_not_not fun c => hn (.inr (.inr (.inr c)))
  have b1 : ¬ boot < 1 := by unfold bootOk at hbo; omega
  have b2 : ¬ boot > 1099511627776 := by unfold bootOk at hbo; omega
  by_cases k1 : kind = 1
  · rw [if_neg (by omega)] at hE
    rw [hk hE, hE]
    exact bg_k1 p.node p.theirs p.old p.sure p.s.g p.s.n p.s.r p.s.sl.length cs As p.r.g p.r.r p.r.fl p.r.tk.length ct At p.r.kp.length ck Ak node boot kind w PC n1 n2 (eqb_f n3) b1 b2 (neb_f k1)
  by_cases t0 : p.theirs = 0
  · rw [if_pos ⟨k1, t0⟩] at hE
    rw [hz (by omega), hE]
    exact bg_e p.node p.theirs p.old p.sure p.s.g p.s.n p.s.r p.s.sl.length cs As p.r.g p.r.r p.r.fl p.r.tk.length ct At p.r.kp.length ck Ak node boot kind w PC n1 n2 (eqb_f n3) b1 b2 (neb_t k1) (eqb_t t0)
  · rw [if_neg (by omega)] at hE
    rw [hk hE, hE]
    exact bg_kn p.node p.theirs p.old p.sure p.s.g p.s.n p.s.r p.s.sl.length cs As p.r.g p.r.r p.r.fl p.r.tk.length ct At p.r.kp.length ck Ak node boot kind w PC n1 n2 (eqb_f n3) b1 b2 (neb_t k1) (eqb_f t0)

set_option maxRecDepth 100000 in
set_option maxHeartbeats 4000000 in
theorem Hello_raw (p : Pr) (A0 : Option Addr) (a0 : Nat) (B0 : Option Addr) (b0 : Nat) (C0 : Option Addr) (c0 : Nat) (node boot : Int) (w : World) (er : Int) (h : Fr) (BG : ∀ w', Below w.heap.size w w' → Calls Try.prog 70 #[.agg #[.int .i64 p.node, .int .u64 p.theirs, .bool p.sure, .int .u64 p.old, .int .u64 p.s.g, .int .u64 p.s.n, .int .u64 p.s.r, .slice A0 p.s.sl.length a0, .int .u64 p.r.g, .int .u64 p.r.r, .int .u64 p.r.fl, .slice B0 p.r.tk.length b0, .slice C0 p.r.kp.length c0], .int .i64 node, .int .u64 boot, .int .i64 1] w' (fun e w'' => e = .returned (.tuple #[.agg #[.int .i64 h.kind, .int .i64 h.frm, .int .i64 h.to, .int .u64 h.mine, .int .u64 h.yours, .int .u64 h.a, .int .u64 h.b, .int .i64 h.inode, .int .u64 h.iseq, .int .i64 h.ioff, .int .i64 h.bn.node, .int .u64 h.bn.seq, .int .i64 h.bn.off, .int .i64 h.bn.dest, .int .i64 h.bn.prio, .int .i64 h.bn.born, .int .i64 h.bn.life, .int .i64 h.bn.total, .string h.bn.data], .int .i64 er]) ∧ Below w'.heap.size w' w'')) :
    Calls Try.prog 25 #[.agg #[.int .i64 p.node, .int .u64 p.theirs, .bool p.sure, .int .u64 p.old, .int .u64 p.s.g, .int .u64 p.s.n, .int .u64 p.s.r, .slice A0 p.s.sl.length a0, .int .u64 p.r.g, .int .u64 p.r.r, .int .u64 p.r.fl, .slice B0 p.r.tk.length b0, .slice C0 p.r.kp.length c0], .int .i64 node, .int .u64 boot] w (fun e w' => e = .returned (.tuple #[.agg #[.int .i64 h.kind, .int .i64 h.frm, .int .i64 h.to, .int .u64 h.mine, .int .u64 h.yours, .int .u64 h.a, .int .u64 h.b, .int .i64 h.inode, .int .u64 h.iseq, .int .i64 h.ioff, .int .i64 h.bn.node, .int .u64 h.bn.seq, .int .i64 h.bn.off, .int .i64 h.bn.dest, .int .i64 h.bn.prio, .int .i64 h.bn.born, .int .i64 h.bn.life, .int .i64 h.bn.total, .string h.bn.data], .int .i64 er]) ∧ Below w.heap.size w w') := by
  have BG' := Lib.hid BG
  clear BG
  go_enter Try.func25, Try.ntmps25
  go_upto_region 1 with (refine wpList_alloc_z (by rfl) 51 (by rfl) _ rfl _ zeroFr ?_)
  try simp only [World.size_alloc, Act.put, List.setIfInBounds_toArray, List.set_cons_zero, List.set_cons_succ]
  have k0 : BK2 w w.heap.size 31 #[.int .i64 p.node, .int .u64 p.theirs, .bool p.sure, .int .u64 p.old, .int .u64 p.s.g, .int .u64 p.s.n, .int .u64 p.s.r, .slice A0 p.s.sl.length a0, .int .u64 p.r.g, .int .u64 p.r.r, .int .u64 p.r.fl, .slice B0 p.r.tk.length b0, .slice C0 p.r.kp.length c0] (w.heap.size + 1) 51 #[.int .i64 0, .int .i64 0, .int .i64 0, .int .u64 0, .int .u64 0, .int .u64 0, .int .u64 0, .int .i64 0, .int .u64 0, .int .i64 0, .int .i64 0, .int .u64 0, .int .i64 0, .int .i64 0, .int .i64 0, .int .i64 0, .int .i64 0, .int .i64 0, .string ⟨#[]⟩] _ := ⟨(Blk.new w 31 #[.int .i64 p.node, .int .u64 p.theirs, .bool p.sure, .int .u64 p.old, .int .u64 p.s.g, .int .u64 p.s.n, .int .u64 p.s.r, .slice A0 p.s.sl.length a0, .int .u64 p.r.g, .int .u64 p.r.r, .int .u64 p.r.fl, .slice B0 p.r.tk.length b0, .slice C0 p.r.kp.length c0]).alloc (.cells #[.int .i64 0, .int .i64 0, .int .i64 0, .int .u64 0, .int .u64 0, .int .u64 0, .int .u64 0, .int .i64 0, .int .u64 0, .int .i64 0, .int .i64 0, .int .u64 0, .int .i64 0, .int .i64 0, .int .i64 0, .int .i64 0, .int .i64 0, .int .i64 0, .string ⟨#[]⟩] 51), Blk.new1 w (.cells #[.int .i64 p.node, .int .u64 p.theirs, .bool p.sure, .int .u64 p.old, .int .u64 p.s.g, .int .u64 p.s.n, .int .u64 p.s.r, .slice A0 p.s.sl.length a0, .int .u64 p.r.g, .int .u64 p.r.r, .int .u64 p.r.fl, .slice B0 p.r.tk.length b0, .slice C0 p.r.kp.length c0] 31) 51 #[.int .i64 0, .int .i64 0, .int .i64 0, .int .u64 0, .int .u64 0, .int .u64 0, .int .u64 0, .int .i64 0, .int .u64 0, .int .i64 0, .int .i64 0, .int .u64 0, .int .i64 0, .int .i64 0, .int .i64 0, .int .i64 0, .int .i64 0, .int .i64 0, .string ⟨#[]⟩], bal (bal (Below.refl _ _) (.cells #[.int .i64 p.node, .int .u64 p.theirs, .bool p.sure, .int .u64 p.old, .int .u64 p.s.g, .int .u64 p.s.n, .int .u64 p.s.r, .slice A0 p.s.sl.length a0, .int .u64 p.r.g, .int .u64 p.r.r, .int .u64 p.r.fl, .slice B0 p.r.tk.length b0, .slice C0 p.r.kp.length c0] 31)) (.cells #[.int .i64 0, .int .i64 0, .int .i64 0, .int .u64 0, .int .u64 0, .int .u64 0, .int .u64 0, .int .i64 0, .int .u64 0, .int .i64 0, .int .i64 0, .int .u64 0, .int .i64 0, .int .i64 0, .int .i64 0, .int .i64 0, .int .i64 0, .int .i64 0, .string ⟨#[]⟩] 51)⟩
  obtain ⟨g1, hg1⟩ : ∃ g1, w.heap.size + 1 = g1 := ⟨_, rfl⟩
  have HG : Hid (w.heap.size ≤ g1) := Lib.hid (by omega)
  rw [hg1] at k0 ⊢
  clear hg1
  obtain ⟨g0, hg0⟩ : ∃ g0, w.heap.size = g0 := ⟨_, rfl⟩
  rw [hg0] at k0 ⊢
  clear hg0
  generalize (w.alloc (.cells #[.int .i64 p.node, .int .u64 p.theirs, .bool p.sure, .int .u64 p.old, .int .u64 p.s.g, .int .u64 p.s.n, .int .u64 p.s.r, .slice A0 p.s.sl.length a0, .int .u64 p.r.g, .int .u64 p.r.r, .int .u64 p.r.fl, .slice B0 p.r.tk.length b0, .slice C0 p.r.kp.length c0] 31)).alloc (.cells #[.int .i64 0, .int .i64 0, .int .i64 0, .int .u64 0, .int .u64 0, .int .u64 0, .int .u64 0, .int .i64 0, .int .u64 0, .int .i64 0, .int .i64 0, .int .u64 0, .int .i64 0, .int .i64 0, .int .i64 0, .int .i64 0, .int .i64 0, .int .i64 0, .string ⟨#[]⟩] 51) = w1 at k0 ⊢
  have K1 := Lib.hid k0
  have kb := k0.b
  have kc := k0.c
  clear k0
  go_wp2_with (refine wpList_load_row (by rfl) 31 _ (by rfl) g0 (by rfl) 31 #[.int .i64 p.node, .int .u64 p.theirs, .bool p.sure, .int .u64 p.old, .int .u64 p.s.g, .int .u64 p.s.n, .int .u64 p.s.r, .slice A0 p.s.sl.length a0, .int .u64 p.r.g, .int .u64 p.r.r, .int .u64 p.r.fl, .slice B0 p.r.tk.length b0, .slice C0 p.r.kp.length c0] (0, 0) _ kb Try.underlying31 (by rfl) (by kernel_rfl) ?_)
  refine (BG'.out _ K1.out.hB).mono ?_
  rintro e w2 ⟨rfl, hb1⟩
  have kk := K1.out.below hb1
  clear K1 kb kc hb1 
  have kb := kk.b
  have kc := kk.c
  have hl0 := kb.lt
  have hl1 := kc.lt
  have K1 := Lib.hid kk
  clear kk
  go_wp2_with (refine wpList_store_mid (by rfl) 51 _ _ (by rfl) g1 0 #[.int .i64 h.kind, .int .i64 h.frm, .int .i64 h.to, .int .u64 h.mine, .int .u64 h.yours, .int .u64 h.a, .int .u64 h.b, .int .i64 h.inode, .int .u64 h.iseq, .int .i64 h.ioff, .int .i64 h.bn.node, .int .u64 h.bn.seq, .int .i64 h.bn.off, .int .i64 h.bn.dest, .int .i64 h.bn.prio, .int .i64 h.bn.born, .int .i64 h.bn.life, .int .i64 h.bn.total, .string h.bn.data] (by rfl) (by rfl) (Blk.there kc 0 _ (Nat.le_refl 19)) (by kernel_rfl) (one19 ..) ?_)
  refine bodyPost_ret (results_cell_t rfl _ _ g1 51 #[.int .i64 h.kind, .int .i64 h.frm, .int .i64 h.to, .int .u64 h.mine, .int .u64 h.yours, .int .u64 h.a, .int .u64 h.b, .int .i64 h.inode, .int .u64 h.iseq, .int .i64 h.ioff, .int .i64 h.bn.node, .int .u64 h.bn.seq, .int .i64 h.bn.off, .int .i64 h.bn.dest, .int .i64 h.bn.prio, .int .i64 h.bn.born, .int .i64 h.bn.life, .int .i64 h.bn.total, .string h.bn.data] (0, 0) _ rfl (Blk.setAll kc rfl) Try.underlying51 (by rfl) (by kernel_rfl)) rfl ?_
  exact ⟨rfl, below_setCells HG.out _ _ K1.out.hB⟩

set_option maxRecDepth 100000 in
set_option maxHeartbeats 4000000 in
theorem Grant_no (p : Pr) (A0 : Option Addr) (a0 : Nat) (B0 : Option Addr) (b0 : Nat) (C0 : Option Addr) (c0 : Nat) (node boot : Int) (w : World) (er : Int) (h : Fr) (BG : ∀ w', Below w.heap.size w w' → Calls Try.prog 70 #[.agg #[.int .i64 p.node, .int .u64 p.theirs, .bool p.sure, .int .u64 p.old, .int .u64 p.s.g, .int .u64 p.s.n, .int .u64 p.s.r, .slice A0 p.s.sl.length a0, .int .u64 p.r.g, .int .u64 p.r.r, .int .u64 p.r.fl, .slice B0 p.r.tk.length b0, .slice C0 p.r.kp.length c0], .int .i64 node, .int .u64 boot, .int .i64 2] w' (fun e w'' => e = .returned (.tuple #[.agg #[.int .i64 h.kind, .int .i64 h.frm, .int .i64 h.to, .int .u64 h.mine, .int .u64 h.yours, .int .u64 h.a, .int .u64 h.b, .int .i64 h.inode, .int .u64 h.iseq, .int .i64 h.ioff, .int .i64 h.bn.node, .int .u64 h.bn.seq, .int .i64 h.bn.off, .int .i64 h.bn.dest, .int .i64 h.bn.prio, .int .i64 h.bn.born, .int .i64 h.bn.life, .int .i64 h.bn.total, .string h.bn.data], .int .i64 er]) ∧ Below w'.heap.size w' w'')) (h0 : er ≠ 0) :
    Calls Try.prog 32 #[.agg #[.int .i64 p.node, .int .u64 p.theirs, .bool p.sure, .int .u64 p.old, .int .u64 p.s.g, .int .u64 p.s.n, .int .u64 p.s.r, .slice A0 p.s.sl.length a0, .int .u64 p.r.g, .int .u64 p.r.r, .int .u64 p.r.fl, .slice B0 p.r.tk.length b0, .slice C0 p.r.kp.length c0], .int .i64 node, .int .u64 boot] w (fun e w' => e = .returned (.tuple #[.agg #[.int .i64 h.kind, .int .i64 h.frm, .int .i64 h.to, .int .u64 h.mine, .int .u64 h.yours, .int .u64 h.a, .int .u64 h.b, .int .i64 h.inode, .int .u64 h.iseq, .int .i64 h.ioff, .int .i64 h.bn.node, .int .u64 h.bn.seq, .int .i64 h.bn.off, .int .i64 h.bn.dest, .int .i64 h.bn.prio, .int .i64 h.bn.born, .int .i64 h.bn.life, .int .i64 h.bn.total, .string h.bn.data], .int .i64 er]) ∧ Below w.heap.size w w') := by
  have e1 : (er == 0) = false := by simpa using h0
  clear h0
  have BG' := Lib.hid BG
  clear BG
  go_enter Try.func32, Try.ntmps32
  go_upto_region 1 with (refine wpList_alloc_z (by rfl) 51 (by rfl) _ rfl _ zeroFr ?_)
  try simp only [World.size_alloc, Act.put, List.setIfInBounds_toArray, List.set_cons_zero, List.set_cons_succ]
  have k0 : BK2 w w.heap.size 31 #[.int .i64 p.node, .int .u64 p.theirs, .bool p.sure, .int .u64 p.old, .int .u64 p.s.g, .int .u64 p.s.n, .int .u64 p.s.r, .slice A0 p.s.sl.length a0, .int .u64 p.r.g, .int .u64 p.r.r, .int .u64 p.r.fl, .slice B0 p.r.tk.length b0, .slice C0 p.r.kp.length c0] (w.heap.size + 1) 51 #[.int .i64 0, .int .i64 0, .int .i64 0, .int .u64 0, .int .u64 0, .int .u64 0, .int .u64 0, .int .i64 0, .int .u64 0, .int .i64 0, .int .i64 0, .int .u64 0, .int .i64 0, .int .i64 0, .int .i64 0, .int .i64 0, .int .i64 0, .int .i64 0, .string ⟨#[]⟩] _ := ⟨(Blk.new w 31 #[.int .i64 p.node, .int .u64 p.theirs, .bool p.sure, .int .u64 p.old, .int .u64 p.s.g, .int .u64 p.s.n, .int .u64 p.s.r, .slice A0 p.s.sl.length a0, .int .u64 p.r.g, .int .u64 p.r.r, .int .u64 p.r.fl, .slice B0 p.r.tk.length b0, .slice C0 p.r.kp.length c0]).alloc (.cells #[.int .i64 0, .int .i64 0, .int .i64 0, .int .u64 0, .int .u64 0, .int .u64 0, .int .u64 0, .int .i64 0, .int .u64 0, .int .i64 0, .int .i64 0, .int .u64 0, .int .i64 0, .int .i64 0, .int .i64 0, .int .i64 0, .int .i64 0, .int .i64 0, .string ⟨#[]⟩] 51), Blk.new1 w (.cells #[.int .i64 p.node, .int .u64 p.theirs, .bool p.sure, .int .u64 p.old, .int .u64 p.s.g, .int .u64 p.s.n, .int .u64 p.s.r, .slice A0 p.s.sl.length a0, .int .u64 p.r.g, .int .u64 p.r.r, .int .u64 p.r.fl, .slice B0 p.r.tk.length b0, .slice C0 p.r.kp.length c0] 31) 51 #[.int .i64 0, .int .i64 0, .int .i64 0, .int .u64 0, .int .u64 0, .int .u64 0, .int .u64 0, .int .i64 0, .int .u64 0, .int .i64 0, .int .i64 0, .int .u64 0, .int .i64 0, .int .i64 0, .int .i64 0, .int .i64 0, .int .i64 0, .int .i64 0, .string ⟨#[]⟩], bal (bal (Below.refl _ _) (.cells #[.int .i64 p.node, .int .u64 p.theirs, .bool p.sure, .int .u64 p.old, .int .u64 p.s.g, .int .u64 p.s.n, .int .u64 p.s.r, .slice A0 p.s.sl.length a0, .int .u64 p.r.g, .int .u64 p.r.r, .int .u64 p.r.fl, .slice B0 p.r.tk.length b0, .slice C0 p.r.kp.length c0] 31)) (.cells #[.int .i64 0, .int .i64 0, .int .i64 0, .int .u64 0, .int .u64 0, .int .u64 0, .int .u64 0, .int .i64 0, .int .u64 0, .int .i64 0, .int .i64 0, .int .u64 0, .int .i64 0, .int .i64 0, .int .i64 0, .int .i64 0, .int .i64 0, .int .i64 0, .string ⟨#[]⟩] 51)⟩
  obtain ⟨g1, hg1⟩ : ∃ g1, w.heap.size + 1 = g1 := ⟨_, rfl⟩
  have HG : Hid (w.heap.size ≤ g1) := Lib.hid (by omega)
  rw [hg1] at k0 ⊢
  clear hg1
  obtain ⟨g0, hg0⟩ : ∃ g0, w.heap.size = g0 := ⟨_, rfl⟩
  rw [hg0] at k0 ⊢
  clear hg0
  generalize (w.alloc (.cells #[.int .i64 p.node, .int .u64 p.theirs, .bool p.sure, .int .u64 p.old, .int .u64 p.s.g, .int .u64 p.s.n, .int .u64 p.s.r, .slice A0 p.s.sl.length a0, .int .u64 p.r.g, .int .u64 p.r.r, .int .u64 p.r.fl, .slice B0 p.r.tk.length b0, .slice C0 p.r.kp.length c0] 31)).alloc (.cells #[.int .i64 0, .int .i64 0, .int .i64 0, .int .u64 0, .int .u64 0, .int .u64 0, .int .u64 0, .int .i64 0, .int .u64 0, .int .i64 0, .int .i64 0, .int .u64 0, .int .i64 0, .int .i64 0, .int .i64 0, .int .i64 0, .int .i64 0, .int .i64 0, .string ⟨#[]⟩] 51) = w1 at k0 ⊢
  have K1 := Lib.hid k0
  have kb := k0.b
  have kc := k0.c
  clear k0
  go_wp2_with (refine wpList_load_row (by rfl) 31 _ (by rfl) g0 (by rfl) 31 #[.int .i64 p.node, .int .u64 p.theirs, .bool p.sure, .int .u64 p.old, .int .u64 p.s.g, .int .u64 p.s.n, .int .u64 p.s.r, .slice A0 p.s.sl.length a0, .int .u64 p.r.g, .int .u64 p.r.r, .int .u64 p.r.fl, .slice B0 p.r.tk.length b0, .slice C0 p.r.kp.length c0] (0, 0) _ kb Try.underlying31 (by rfl) (by kernel_rfl) ?_)
  refine (BG'.out _ K1.out.hB).mono ?_
  rintro e w2 ⟨rfl, hb1⟩
  have kk := K1.out.below hb1
  clear K1 kb kc hb1 
  have kb := kk.b
  have kc := kk.c
  have hl0 := kb.lt
  have hl1 := kc.lt
  have K1 := Lib.hid kk
  clear kk
  go_upto_region 2 with (first | (refine wpList_alloc_z (by rfl) 51 (by rfl) _ rfl _ zeroFr ?_) | (refine wpList_store_new (by rfl) 51 _ _ (by rfl) w2 #[.int .i64 0, .int .i64 0, .int .i64 0, .int .u64 0, .int .u64 0, .int .u64 0, .int .u64 0, .int .i64 0, .int .u64 0, .int .i64 0, .int .i64 0, .int .u64 0, .int .i64 0, .int .i64 0, .int .i64 0, .int .i64 0, .int .i64 0, .int .i64 0, .string ⟨#[]⟩] #[.int .i64 h.kind, .int .i64 h.frm, .int .i64 h.to, .int .u64 h.mine, .int .u64 h.yours, .int .u64 h.a, .int .u64 h.b, .int .i64 h.inode, .int .u64 h.iseq, .int .i64 h.ioff, .int .i64 h.bn.node, .int .u64 h.bn.seq, .int .i64 h.bn.off, .int .i64 h.bn.dest, .int .i64 h.bn.prio, .int .i64 h.bn.born, .int .i64 h.bn.life, .int .i64 h.bn.total, .string h.bn.data] rfl (by rfl) (by rfl) (by kernel_rfl) rfl (one19 ..) ?_))
  have kd := Blk.new w2 51 #[.int .i64 h.kind, .int .i64 h.frm, .int .i64 h.to, .int .u64 h.mine, .int .u64 h.yours, .int .u64 h.a, .int .u64 h.b, .int .i64 h.inode, .int .u64 h.iseq, .int .i64 h.ioff, .int .i64 h.bn.node, .int .u64 h.bn.seq, .int .i64 h.bn.off, .int .i64 h.bn.dest, .int .i64 h.bn.prio, .int .i64 h.bn.born, .int .i64 h.bn.life, .int .i64 h.bn.total, .string h.bn.data]
  replace kb := kb.alloc (.cells #[.int .i64 h.kind, .int .i64 h.frm, .int .i64 h.to, .int .u64 h.mine, .int .u64 h.yours, .int .u64 h.a, .int .u64 h.b, .int .i64 h.inode, .int .u64 h.iseq, .int .i64 h.ioff, .int .i64 h.bn.node, .int .u64 h.bn.seq, .int .i64 h.bn.off, .int .i64 h.bn.dest, .int .i64 h.bn.prio, .int .i64 h.bn.born, .int .i64 h.bn.life, .int .i64 h.bn.total, .string h.bn.data] 51)
  replace kc := kc.alloc (.cells #[.int .i64 h.kind, .int .i64 h.frm, .int .i64 h.to, .int .u64 h.mine, .int .u64 h.yours, .int .u64 h.a, .int .u64 h.b, .int .i64 h.inode, .int .u64 h.iseq, .int .i64 h.ioff, .int .i64 h.bn.node, .int .u64 h.bn.seq, .int .i64 h.bn.off, .int .i64 h.bn.dest, .int .i64 h.bn.prio, .int .i64 h.bn.born, .int .i64 h.bn.life, .int .i64 h.bn.total, .string h.bn.data] 51)
  have hB := bal K1.out.hB (.cells #[.int .i64 h.kind, .int .i64 h.frm, .int .i64 h.to, .int .u64 h.mine, .int .u64 h.yours, .int .u64 h.a, .int .u64 h.b, .int .i64 h.inode, .int .u64 h.iseq, .int .i64 h.ioff, .int .i64 h.bn.node, .int .u64 h.bn.seq, .int .i64 h.bn.off, .int .i64 h.bn.dest, .int .i64 h.bn.prio, .int .i64 h.bn.born, .int .i64 h.bn.life, .int .i64 h.bn.total, .string h.bn.data] 51)
  obtain ⟨g2, hg2⟩ : ∃ g2, w2.heap.size = g2 := ⟨_, rfl⟩
  have NE : Hid (¬ g0 = g2 ∧ ¬ g1 = g2 ∧ w.heap.size ≤ g2) := Lib.hid ⟨by omega, by omega, by have := K1.out.hB.size; omega⟩
  rw [hg2] at kd ⊢
  clear hg2 K1 hl0 hl1
  generalize w2.alloc (.cells #[.int .i64 h.kind, .int .i64 h.frm, .int .i64 h.to, .int .u64 h.mine, .int .u64 h.yours, .int .u64 h.a, .int .u64 h.b, .int .i64 h.inode, .int .u64 h.iseq, .int .i64 h.ioff, .int .i64 h.bn.node, .int .u64 h.bn.seq, .int .i64 h.bn.off, .int .i64 h.bn.dest, .int .i64 h.bn.prio, .int .i64 h.bn.born, .int .i64 h.bn.life, .int .i64 h.bn.total, .string h.bn.data] 51) = w3 at kd kb kc hB ⊢
  go_wp2_with (first | (refine wpList_load_row (by rfl) 51 _ (by rfl) g2 (by rfl) 51 #[.int .i64 h.kind, .int .i64 h.frm, .int .i64 h.to, .int .u64 h.mine, .int .u64 h.yours, .int .u64 h.a, .int .u64 h.b, .int .i64 h.inode, .int .u64 h.iseq, .int .i64 h.ioff, .int .i64 h.bn.node, .int .u64 h.bn.seq, .int .i64 h.bn.off, .int .i64 h.bn.dest, .int .i64 h.bn.prio, .int .i64 h.bn.born, .int .i64 h.bn.life, .int .i64 h.bn.total, .string h.bn.data] (0, 0) _ kd Try.underlying51 (by rfl) (by kernel_rfl) ?_) | (refine wpList_store_mid (by rfl) 51 _ _ (by rfl) g1 0 #[.int .i64 h.kind, .int .i64 h.frm, .int .i64 h.to, .int .u64 h.mine, .int .u64 h.yours, .int .u64 h.a, .int .u64 h.b, .int .i64 h.inode, .int .u64 h.iseq, .int .i64 h.ioff, .int .i64 h.bn.node, .int .u64 h.bn.seq, .int .i64 h.bn.off, .int .i64 h.bn.dest, .int .i64 h.bn.prio, .int .i64 h.bn.born, .int .i64 h.bn.life, .int .i64 h.bn.total, .string h.bn.data] (by rfl) (by rfl) (Blk.there kc 0 _ (Nat.le_refl 19)) (by kernel_rfl) (one19 ..) ?_))
  refine bodyPost_ret (results_cell_t rfl _ _ g1 51 #[.int .i64 h.kind, .int .i64 h.frm, .int .i64 h.to, .int .u64 h.mine, .int .u64 h.yours, .int .u64 h.a, .int .u64 h.b, .int .i64 h.inode, .int .u64 h.iseq, .int .i64 h.ioff, .int .i64 h.bn.node, .int .u64 h.bn.seq, .int .i64 h.bn.off, .int .i64 h.bn.dest, .int .i64 h.bn.prio, .int .i64 h.bn.born, .int .i64 h.bn.life, .int .i64 h.bn.total, .string h.bn.data] (0, 0) _ rfl (Blk.setAll kc rfl) Try.underlying51 (by rfl) (by kernel_rfl)) rfl ?_
  exact ⟨rfl, below_setCells HG.out _ _ hB⟩

set_option maxRecDepth 100000 in
set_option maxHeartbeats 4000000 in
theorem Report_no (p : Pr) (A0 : Option Addr) (a0 : Nat) (B0 : Option Addr) (b0 : Nat) (C0 : Option Addr) (c0 : Nat) (node boot : Int) (w : World) (er : Int) (h : Fr) (BG : ∀ w', Below w.heap.size w w' → Calls Try.prog 70 #[.agg #[.int .i64 p.node, .int .u64 p.theirs, .bool p.sure, .int .u64 p.old, .int .u64 p.s.g, .int .u64 p.s.n, .int .u64 p.s.r, .slice A0 p.s.sl.length a0, .int .u64 p.r.g, .int .u64 p.r.r, .int .u64 p.r.fl, .slice B0 p.r.tk.length b0, .slice C0 p.r.kp.length c0], .int .i64 node, .int .u64 boot, .int .i64 4] w' (fun e w'' => e = .returned (.tuple #[.agg #[.int .i64 h.kind, .int .i64 h.frm, .int .i64 h.to, .int .u64 h.mine, .int .u64 h.yours, .int .u64 h.a, .int .u64 h.b, .int .i64 h.inode, .int .u64 h.iseq, .int .i64 h.ioff, .int .i64 h.bn.node, .int .u64 h.bn.seq, .int .i64 h.bn.off, .int .i64 h.bn.dest, .int .i64 h.bn.prio, .int .i64 h.bn.born, .int .i64 h.bn.life, .int .i64 h.bn.total, .string h.bn.data], .int .i64 er]) ∧ Below w'.heap.size w' w'')) (h0 : er ≠ 0) :
    Calls Try.prog 37 #[.agg #[.int .i64 p.node, .int .u64 p.theirs, .bool p.sure, .int .u64 p.old, .int .u64 p.s.g, .int .u64 p.s.n, .int .u64 p.s.r, .slice A0 p.s.sl.length a0, .int .u64 p.r.g, .int .u64 p.r.r, .int .u64 p.r.fl, .slice B0 p.r.tk.length b0, .slice C0 p.r.kp.length c0], .int .i64 node, .int .u64 boot] w (fun e w' => e = .returned (.tuple #[.agg #[.int .i64 h.kind, .int .i64 h.frm, .int .i64 h.to, .int .u64 h.mine, .int .u64 h.yours, .int .u64 h.a, .int .u64 h.b, .int .i64 h.inode, .int .u64 h.iseq, .int .i64 h.ioff, .int .i64 h.bn.node, .int .u64 h.bn.seq, .int .i64 h.bn.off, .int .i64 h.bn.dest, .int .i64 h.bn.prio, .int .i64 h.bn.born, .int .i64 h.bn.life, .int .i64 h.bn.total, .string h.bn.data], .int .i64 er]) ∧ Below w.heap.size w w') := by
  have e1 : (er == 0) = false := by simpa using h0
  clear h0
  have BG' := Lib.hid BG
  clear BG
  go_enter Try.func37, Try.ntmps37
  go_upto_region 1 with (refine wpList_alloc_z (by rfl) 51 (by rfl) _ rfl _ zeroFr ?_)
  try simp only [World.size_alloc, Act.put, List.setIfInBounds_toArray, List.set_cons_zero, List.set_cons_succ]
  have k0 : BK2 w w.heap.size 31 #[.int .i64 p.node, .int .u64 p.theirs, .bool p.sure, .int .u64 p.old, .int .u64 p.s.g, .int .u64 p.s.n, .int .u64 p.s.r, .slice A0 p.s.sl.length a0, .int .u64 p.r.g, .int .u64 p.r.r, .int .u64 p.r.fl, .slice B0 p.r.tk.length b0, .slice C0 p.r.kp.length c0] (w.heap.size + 1) 51 #[.int .i64 0, .int .i64 0, .int .i64 0, .int .u64 0, .int .u64 0, .int .u64 0, .int .u64 0, .int .i64 0, .int .u64 0, .int .i64 0, .int .i64 0, .int .u64 0, .int .i64 0, .int .i64 0, .int .i64 0, .int .i64 0, .int .i64 0, .int .i64 0, .string ⟨#[]⟩] _ := ⟨(Blk.new w 31 #[.int .i64 p.node, .int .u64 p.theirs, .bool p.sure, .int .u64 p.old, .int .u64 p.s.g, .int .u64 p.s.n, .int .u64 p.s.r, .slice A0 p.s.sl.length a0, .int .u64 p.r.g, .int .u64 p.r.r, .int .u64 p.r.fl, .slice B0 p.r.tk.length b0, .slice C0 p.r.kp.length c0]).alloc (.cells #[.int .i64 0, .int .i64 0, .int .i64 0, .int .u64 0, .int .u64 0, .int .u64 0, .int .u64 0, .int .i64 0, .int .u64 0, .int .i64 0, .int .i64 0, .int .u64 0, .int .i64 0, .int .i64 0, .int .i64 0, .int .i64 0, .int .i64 0, .int .i64 0, .string ⟨#[]⟩] 51), Blk.new1 w (.cells #[.int .i64 p.node, .int .u64 p.theirs, .bool p.sure, .int .u64 p.old, .int .u64 p.s.g, .int .u64 p.s.n, .int .u64 p.s.r, .slice A0 p.s.sl.length a0, .int .u64 p.r.g, .int .u64 p.r.r, .int .u64 p.r.fl, .slice B0 p.r.tk.length b0, .slice C0 p.r.kp.length c0] 31) 51 #[.int .i64 0, .int .i64 0, .int .i64 0, .int .u64 0, .int .u64 0, .int .u64 0, .int .u64 0, .int .i64 0, .int .u64 0, .int .i64 0, .int .i64 0, .int .u64 0, .int .i64 0, .int .i64 0, .int .i64 0, .int .i64 0, .int .i64 0, .int .i64 0, .string ⟨#[]⟩], bal (bal (Below.refl _ _) (.cells #[.int .i64 p.node, .int .u64 p.theirs, .bool p.sure, .int .u64 p.old, .int .u64 p.s.g, .int .u64 p.s.n, .int .u64 p.s.r, .slice A0 p.s.sl.length a0, .int .u64 p.r.g, .int .u64 p.r.r, .int .u64 p.r.fl, .slice B0 p.r.tk.length b0, .slice C0 p.r.kp.length c0] 31)) (.cells #[.int .i64 0, .int .i64 0, .int .i64 0, .int .u64 0, .int .u64 0, .int .u64 0, .int .u64 0, .int .i64 0, .int .u64 0, .int .i64 0, .int .i64 0, .int .u64 0, .int .i64 0, .int .i64 0, .int .i64 0, .int .i64 0, .int .i64 0, .int .i64 0, .string ⟨#[]⟩] 51)⟩
  obtain ⟨g1, hg1⟩ : ∃ g1, w.heap.size + 1 = g1 := ⟨_, rfl⟩
  have HG : Hid (w.heap.size ≤ g1) := Lib.hid (by omega)
  rw [hg1] at k0 ⊢
  clear hg1
  obtain ⟨g0, hg0⟩ : ∃ g0, w.heap.size = g0 := ⟨_, rfl⟩
  rw [hg0] at k0 ⊢
  clear hg0
  generalize (w.alloc (.cells #[.int .i64 p.node, .int .u64 p.theirs, .bool p.sure, .int .u64 p.old, .int .u64 p.s.g, .int .u64 p.s.n, .int .u64 p.s.r, .slice A0 p.s.sl.length a0, .int .u64 p.r.g, .int .u64 p.r.r, .int .u64 p.r.fl, .slice B0 p.r.tk.length b0, .slice C0 p.r.kp.length c0] 31)).alloc (.cells #[.int .i64 0, .int .i64 0, .int .i64 0, .int .u64 0, .int .u64 0, .int .u64 0, .int .u64 0, .int .i64 0, .int .u64 0, .int .i64 0, .int .i64 0, .int .u64 0, .int .i64 0, .int .i64 0, .int .i64 0, .int .i64 0, .int .i64 0, .int .i64 0, .string ⟨#[]⟩] 51) = w1 at k0 ⊢
  have K1 := Lib.hid k0
  have kb := k0.b
  have kc := k0.c
  clear k0
  go_wp2_with (refine wpList_load_row (by rfl) 31 _ (by rfl) g0 (by rfl) 31 #[.int .i64 p.node, .int .u64 p.theirs, .bool p.sure, .int .u64 p.old, .int .u64 p.s.g, .int .u64 p.s.n, .int .u64 p.s.r, .slice A0 p.s.sl.length a0, .int .u64 p.r.g, .int .u64 p.r.r, .int .u64 p.r.fl, .slice B0 p.r.tk.length b0, .slice C0 p.r.kp.length c0] (0, 0) _ kb Try.underlying31 (by rfl) (by kernel_rfl) ?_)
  refine (BG'.out _ K1.out.hB).mono ?_
  rintro e w2 ⟨rfl, hb1⟩
  have kk := K1.out.below hb1
  clear K1 kb kc hb1 
  have kb := kk.b
  have kc := kk.c
  have hl0 := kb.lt
  have hl1 := kc.lt
  have K1 := Lib.hid kk
  clear kk
  go_upto_region 2 with (first | (refine wpList_alloc_z (by rfl) 51 (by rfl) _ rfl _ zeroFr ?_) | (refine wpList_store_new (by rfl) 51 _ _ (by rfl) w2 #[.int .i64 0, .int .i64 0, .int .i64 0, .int .u64 0, .int .u64 0, .int .u64 0, .int .u64 0, .int .i64 0, .int .u64 0, .int .i64 0, .int .i64 0, .int .u64 0, .int .i64 0, .int .i64 0, .int .i64 0, .int .i64 0, .int .i64 0, .int .i64 0, .string ⟨#[]⟩] #[.int .i64 h.kind, .int .i64 h.frm, .int .i64 h.to, .int .u64 h.mine, .int .u64 h.yours, .int .u64 h.a, .int .u64 h.b, .int .i64 h.inode, .int .u64 h.iseq, .int .i64 h.ioff, .int .i64 h.bn.node, .int .u64 h.bn.seq, .int .i64 h.bn.off, .int .i64 h.bn.dest, .int .i64 h.bn.prio, .int .i64 h.bn.born, .int .i64 h.bn.life, .int .i64 h.bn.total, .string h.bn.data] rfl (by rfl) (by rfl) (by kernel_rfl) rfl (one19 ..) ?_))
  have kd := Blk.new w2 51 #[.int .i64 h.kind, .int .i64 h.frm, .int .i64 h.to, .int .u64 h.mine, .int .u64 h.yours, .int .u64 h.a, .int .u64 h.b, .int .i64 h.inode, .int .u64 h.iseq, .int .i64 h.ioff, .int .i64 h.bn.node, .int .u64 h.bn.seq, .int .i64 h.bn.off, .int .i64 h.bn.dest, .int .i64 h.bn.prio, .int .i64 h.bn.born, .int .i64 h.bn.life, .int .i64 h.bn.total, .string h.bn.data]
  replace kb := kb.alloc (.cells #[.int .i64 h.kind, .int .i64 h.frm, .int .i64 h.to, .int .u64 h.mine, .int .u64 h.yours, .int .u64 h.a, .int .u64 h.b, .int .i64 h.inode, .int .u64 h.iseq, .int .i64 h.ioff, .int .i64 h.bn.node, .int .u64 h.bn.seq, .int .i64 h.bn.off, .int .i64 h.bn.dest, .int .i64 h.bn.prio, .int .i64 h.bn.born, .int .i64 h.bn.life, .int .i64 h.bn.total, .string h.bn.data] 51)
  replace kc := kc.alloc (.cells #[.int .i64 h.kind, .int .i64 h.frm, .int .i64 h.to, .int .u64 h.mine, .int .u64 h.yours, .int .u64 h.a, .int .u64 h.b, .int .i64 h.inode, .int .u64 h.iseq, .int .i64 h.ioff, .int .i64 h.bn.node, .int .u64 h.bn.seq, .int .i64 h.bn.off, .int .i64 h.bn.dest, .int .i64 h.bn.prio, .int .i64 h.bn.born, .int .i64 h.bn.life, .int .i64 h.bn.total, .string h.bn.data] 51)
  have hB := bal K1.out.hB (.cells #[.int .i64 h.kind, .int .i64 h.frm, .int .i64 h.to, .int .u64 h.mine, .int .u64 h.yours, .int .u64 h.a, .int .u64 h.b, .int .i64 h.inode, .int .u64 h.iseq, .int .i64 h.ioff, .int .i64 h.bn.node, .int .u64 h.bn.seq, .int .i64 h.bn.off, .int .i64 h.bn.dest, .int .i64 h.bn.prio, .int .i64 h.bn.born, .int .i64 h.bn.life, .int .i64 h.bn.total, .string h.bn.data] 51)
  obtain ⟨g2, hg2⟩ : ∃ g2, w2.heap.size = g2 := ⟨_, rfl⟩
  have NE : Hid (¬ g0 = g2 ∧ ¬ g1 = g2 ∧ w.heap.size ≤ g2) := Lib.hid ⟨by omega, by omega, by have := K1.out.hB.size; omega⟩
  rw [hg2] at kd ⊢
  clear hg2 K1 hl0 hl1
  generalize w2.alloc (.cells #[.int .i64 h.kind, .int .i64 h.frm, .int .i64 h.to, .int .u64 h.mine, .int .u64 h.yours, .int .u64 h.a, .int .u64 h.b, .int .i64 h.inode, .int .u64 h.iseq, .int .i64 h.ioff, .int .i64 h.bn.node, .int .u64 h.bn.seq, .int .i64 h.bn.off, .int .i64 h.bn.dest, .int .i64 h.bn.prio, .int .i64 h.bn.born, .int .i64 h.bn.life, .int .i64 h.bn.total, .string h.bn.data] 51) = w3 at kd kb kc hB ⊢
  go_wp2_with (first | (refine wpList_load_row (by rfl) 51 _ (by rfl) g2 (by rfl) 51 #[.int .i64 h.kind, .int .i64 h.frm, .int .i64 h.to, .int .u64 h.mine, .int .u64 h.yours, .int .u64 h.a, .int .u64 h.b, .int .i64 h.inode, .int .u64 h.iseq, .int .i64 h.ioff, .int .i64 h.bn.node, .int .u64 h.bn.seq, .int .i64 h.bn.off, .int .i64 h.bn.dest, .int .i64 h.bn.prio, .int .i64 h.bn.born, .int .i64 h.bn.life, .int .i64 h.bn.total, .string h.bn.data] (0, 0) _ kd Try.underlying51 (by rfl) (by kernel_rfl) ?_) | (refine wpList_store_mid (by rfl) 51 _ _ (by rfl) g1 0 #[.int .i64 h.kind, .int .i64 h.frm, .int .i64 h.to, .int .u64 h.mine, .int .u64 h.yours, .int .u64 h.a, .int .u64 h.b, .int .i64 h.inode, .int .u64 h.iseq, .int .i64 h.ioff, .int .i64 h.bn.node, .int .u64 h.bn.seq, .int .i64 h.bn.off, .int .i64 h.bn.dest, .int .i64 h.bn.prio, .int .i64 h.bn.born, .int .i64 h.bn.life, .int .i64 h.bn.total, .string h.bn.data] (by rfl) (by rfl) (Blk.there kc 0 _ (Nat.le_refl 19)) (by kernel_rfl) (one19 ..) ?_))
  refine bodyPost_ret (results_cell_t rfl _ _ g1 51 #[.int .i64 h.kind, .int .i64 h.frm, .int .i64 h.to, .int .u64 h.mine, .int .u64 h.yours, .int .u64 h.a, .int .u64 h.b, .int .i64 h.inode, .int .u64 h.iseq, .int .i64 h.ioff, .int .i64 h.bn.node, .int .u64 h.bn.seq, .int .i64 h.bn.off, .int .i64 h.bn.dest, .int .i64 h.bn.prio, .int .i64 h.bn.born, .int .i64 h.bn.life, .int .i64 h.bn.total, .string h.bn.data] (0, 0) _ rfl (Blk.setAll kc rfl) Try.underlying51 (by rfl) (by kernel_rfl)) rfl ?_
  exact ⟨rfl, below_setCells HG.out _ _ hB⟩

set_option maxRecDepth 100000 in
set_option maxHeartbeats 4000000 in
theorem Grant_yes (p : Pr) (A0 : Option Addr) (a0 : Nat) (B0 : Option Addr) (b0 : Nat) (C0 : Option Addr) (c0 : Nat) (node boot : Int) (w : World) (h : Fr) (BG : ∀ w', Below w.heap.size w w' → Calls Try.prog 70 #[.agg #[.int .i64 p.node, .int .u64 p.theirs, .bool p.sure, .int .u64 p.old, .int .u64 p.s.g, .int .u64 p.s.n, .int .u64 p.s.r, .slice A0 p.s.sl.length a0, .int .u64 p.r.g, .int .u64 p.r.r, .int .u64 p.r.fl, .slice B0 p.r.tk.length b0, .slice C0 p.r.kp.length c0], .int .i64 node, .int .u64 boot, .int .i64 2] w' (fun e w'' => e = .returned (.tuple #[.agg #[.int .i64 h.kind, .int .i64 h.frm, .int .i64 h.to, .int .u64 h.mine, .int .u64 h.yours, .int .u64 h.a, .int .u64 h.b, .int .i64 h.inode, .int .u64 h.iseq, .int .i64 h.ioff, .int .i64 h.bn.node, .int .u64 h.bn.seq, .int .i64 h.bn.off, .int .i64 h.bn.dest, .int .i64 h.bn.prio, .int .i64 h.bn.born, .int .i64 h.bn.life, .int .i64 h.bn.total, .string h.bn.data], .int .i64 0]) ∧ Below w'.heap.size w' w'')) :
    Calls Try.prog 32 #[.agg #[.int .i64 p.node, .int .u64 p.theirs, .bool p.sure, .int .u64 p.old, .int .u64 p.s.g, .int .u64 p.s.n, .int .u64 p.s.r, .slice A0 p.s.sl.length a0, .int .u64 p.r.g, .int .u64 p.r.r, .int .u64 p.r.fl, .slice B0 p.r.tk.length b0, .slice C0 p.r.kp.length c0], .int .i64 node, .int .u64 boot] w (fun e w' => e = .returned (.tuple #[.agg #[.int .i64 h.kind, .int .i64 h.frm, .int .i64 h.to, .int .u64 h.mine, .int .u64 h.yours, .int .u64 p.r.g, .int .u64 h.b, .int .i64 h.inode, .int .u64 h.iseq, .int .i64 h.ioff, .int .i64 h.bn.node, .int .u64 h.bn.seq, .int .i64 h.bn.off, .int .i64 h.bn.dest, .int .i64 h.bn.prio, .int .i64 h.bn.born, .int .i64 h.bn.life, .int .i64 h.bn.total, .string h.bn.data], .int .i64 0]) ∧ Below w.heap.size w w') := by
  have BG' := Lib.hid BG
  clear BG
  go_enter Try.func32, Try.ntmps32
  go_upto_region 1 with (refine wpList_alloc_z (by rfl) 51 (by rfl) _ rfl _ zeroFr ?_)
  try simp only [World.size_alloc, Act.put, List.setIfInBounds_toArray, List.set_cons_zero, List.set_cons_succ]
  have k0 : BK2 w w.heap.size 31 #[.int .i64 p.node, .int .u64 p.theirs, .bool p.sure, .int .u64 p.old, .int .u64 p.s.g, .int .u64 p.s.n, .int .u64 p.s.r, .slice A0 p.s.sl.length a0, .int .u64 p.r.g, .int .u64 p.r.r, .int .u64 p.r.fl, .slice B0 p.r.tk.length b0, .slice C0 p.r.kp.length c0] (w.heap.size + 1) 51 #[.int .i64 0, .int .i64 0, .int .i64 0, .int .u64 0, .int .u64 0, .int .u64 0, .int .u64 0, .int .i64 0, .int .u64 0, .int .i64 0, .int .i64 0, .int .u64 0, .int .i64 0, .int .i64 0, .int .i64 0, .int .i64 0, .int .i64 0, .int .i64 0, .string ⟨#[]⟩] _ := ⟨(Blk.new w 31 #[.int .i64 p.node, .int .u64 p.theirs, .bool p.sure, .int .u64 p.old, .int .u64 p.s.g, .int .u64 p.s.n, .int .u64 p.s.r, .slice A0 p.s.sl.length a0, .int .u64 p.r.g, .int .u64 p.r.r, .int .u64 p.r.fl, .slice B0 p.r.tk.length b0, .slice C0 p.r.kp.length c0]).alloc (.cells #[.int .i64 0, .int .i64 0, .int .i64 0, .int .u64 0, .int .u64 0, .int .u64 0, .int .u64 0, .int .i64 0, .int .u64 0, .int .i64 0, .int .i64 0, .int .u64 0, .int .i64 0, .int .i64 0, .int .i64 0, .int .i64 0, .int .i64 0, .int .i64 0, .string ⟨#[]⟩] 51), Blk.new1 w (.cells #[.int .i64 p.node, .int .u64 p.theirs, .bool p.sure, .int .u64 p.old, .int .u64 p.s.g, .int .u64 p.s.n, .int .u64 p.s.r, .slice A0 p.s.sl.length a0, .int .u64 p.r.g, .int .u64 p.r.r, .int .u64 p.r.fl, .slice B0 p.r.tk.length b0, .slice C0 p.r.kp.length c0] 31) 51 #[.int .i64 0, .int .i64 0, .int .i64 0, .int .u64 0, .int .u64 0, .int .u64 0, .int .u64 0, .int .i64 0, .int .u64 0, .int .i64 0, .int .i64 0, .int .u64 0, .int .i64 0, .int .i64 0, .int .i64 0, .int .i64 0, .int .i64 0, .int .i64 0, .string ⟨#[]⟩], bal (bal (Below.refl _ _) (.cells #[.int .i64 p.node, .int .u64 p.theirs, .bool p.sure, .int .u64 p.old, .int .u64 p.s.g, .int .u64 p.s.n, .int .u64 p.s.r, .slice A0 p.s.sl.length a0, .int .u64 p.r.g, .int .u64 p.r.r, .int .u64 p.r.fl, .slice B0 p.r.tk.length b0, .slice C0 p.r.kp.length c0] 31)) (.cells #[.int .i64 0, .int .i64 0, .int .i64 0, .int .u64 0, .int .u64 0, .int .u64 0, .int .u64 0, .int .i64 0, .int .u64 0, .int .i64 0, .int .i64 0, .int .u64 0, .int .i64 0, .int .i64 0, .int .i64 0, .int .i64 0, .int .i64 0, .int .i64 0, .string ⟨#[]⟩] 51)⟩
  obtain ⟨g1, hg1⟩ : ∃ g1, w.heap.size + 1 = g1 := ⟨_, rfl⟩
  have HG : Hid (w.heap.size ≤ g1) := Lib.hid (by omega)
  rw [hg1] at k0 ⊢
  clear hg1
  obtain ⟨g0, hg0⟩ : ∃ g0, w.heap.size = g0 := ⟨_, rfl⟩
  rw [hg0] at k0 ⊢
  clear hg0
  generalize (w.alloc (.cells #[.int .i64 p.node, .int .u64 p.theirs, .bool p.sure, .int .u64 p.old, .int .u64 p.s.g, .int .u64 p.s.n, .int .u64 p.s.r, .slice A0 p.s.sl.length a0, .int .u64 p.r.g, .int .u64 p.r.r, .int .u64 p.r.fl, .slice B0 p.r.tk.length b0, .slice C0 p.r.kp.length c0] 31)).alloc (.cells #[.int .i64 0, .int .i64 0, .int .i64 0, .int .u64 0, .int .u64 0, .int .u64 0, .int .u64 0, .int .i64 0, .int .u64 0, .int .i64 0, .int .i64 0, .int .u64 0, .int .i64 0, .int .i64 0, .int .i64 0, .int .i64 0, .int .i64 0, .int .i64 0, .string ⟨#[]⟩] 51) = w1 at k0 ⊢
  have K1 := Lib.hid k0
  have kb := k0.b
  have kc := k0.c
  clear k0
  go_wp2_with (refine wpList_load_row (by rfl) 31 _ (by rfl) g0 (by rfl) 31 #[.int .i64 p.node, .int .u64 p.theirs, .bool p.sure, .int .u64 p.old, .int .u64 p.s.g, .int .u64 p.s.n, .int .u64 p.s.r, .slice A0 p.s.sl.length a0, .int .u64 p.r.g, .int .u64 p.r.r, .int .u64 p.r.fl, .slice B0 p.r.tk.length b0, .slice C0 p.r.kp.length c0] (0, 0) _ kb Try.underlying31 (by rfl) (by kernel_rfl) ?_)
  refine (BG'.out _ K1.out.hB).mono ?_
  rintro e w2 ⟨rfl, hb1⟩
  have kk := K1.out.below hb1
  clear K1 kb kc hb1 
  have kb := kk.b
  have kc := kk.c
  have hl0 := kb.lt
  have hl1 := kc.lt
  have K1 := Lib.hid kk
  clear kk
  go_upto_region 2 with (first | (refine wpList_alloc_z (by rfl) 51 (by rfl) _ rfl _ zeroFr ?_) | (refine wpList_store_new (by rfl) 51 _ _ (by rfl) w2 #[.int .i64 0, .int .i64 0, .int .i64 0, .int .u64 0, .int .u64 0, .int .u64 0, .int .u64 0, .int .i64 0, .int .u64 0, .int .i64 0, .int .i64 0, .int .u64 0, .int .i64 0, .int .i64 0, .int .i64 0, .int .i64 0, .int .i64 0, .int .i64 0, .string ⟨#[]⟩] #[.int .i64 h.kind, .int .i64 h.frm, .int .i64 h.to, .int .u64 h.mine, .int .u64 h.yours, .int .u64 h.a, .int .u64 h.b, .int .i64 h.inode, .int .u64 h.iseq, .int .i64 h.ioff, .int .i64 h.bn.node, .int .u64 h.bn.seq, .int .i64 h.bn.off, .int .i64 h.bn.dest, .int .i64 h.bn.prio, .int .i64 h.bn.born, .int .i64 h.bn.life, .int .i64 h.bn.total, .string h.bn.data] rfl (by rfl) (by rfl) (by kernel_rfl) rfl (one19 ..) ?_))
  have kd := Blk.new w2 51 #[.int .i64 h.kind, .int .i64 h.frm, .int .i64 h.to, .int .u64 h.mine, .int .u64 h.yours, .int .u64 h.a, .int .u64 h.b, .int .i64 h.inode, .int .u64 h.iseq, .int .i64 h.ioff, .int .i64 h.bn.node, .int .u64 h.bn.seq, .int .i64 h.bn.off, .int .i64 h.bn.dest, .int .i64 h.bn.prio, .int .i64 h.bn.born, .int .i64 h.bn.life, .int .i64 h.bn.total, .string h.bn.data]
  replace kb := kb.alloc (.cells #[.int .i64 h.kind, .int .i64 h.frm, .int .i64 h.to, .int .u64 h.mine, .int .u64 h.yours, .int .u64 h.a, .int .u64 h.b, .int .i64 h.inode, .int .u64 h.iseq, .int .i64 h.ioff, .int .i64 h.bn.node, .int .u64 h.bn.seq, .int .i64 h.bn.off, .int .i64 h.bn.dest, .int .i64 h.bn.prio, .int .i64 h.bn.born, .int .i64 h.bn.life, .int .i64 h.bn.total, .string h.bn.data] 51)
  replace kc := kc.alloc (.cells #[.int .i64 h.kind, .int .i64 h.frm, .int .i64 h.to, .int .u64 h.mine, .int .u64 h.yours, .int .u64 h.a, .int .u64 h.b, .int .i64 h.inode, .int .u64 h.iseq, .int .i64 h.ioff, .int .i64 h.bn.node, .int .u64 h.bn.seq, .int .i64 h.bn.off, .int .i64 h.bn.dest, .int .i64 h.bn.prio, .int .i64 h.bn.born, .int .i64 h.bn.life, .int .i64 h.bn.total, .string h.bn.data] 51)
  have hB := bal K1.out.hB (.cells #[.int .i64 h.kind, .int .i64 h.frm, .int .i64 h.to, .int .u64 h.mine, .int .u64 h.yours, .int .u64 h.a, .int .u64 h.b, .int .i64 h.inode, .int .u64 h.iseq, .int .i64 h.ioff, .int .i64 h.bn.node, .int .u64 h.bn.seq, .int .i64 h.bn.off, .int .i64 h.bn.dest, .int .i64 h.bn.prio, .int .i64 h.bn.born, .int .i64 h.bn.life, .int .i64 h.bn.total, .string h.bn.data] 51)
  obtain ⟨g2, hg2⟩ : ∃ g2, w2.heap.size = g2 := ⟨_, rfl⟩
  have NE : Hid (¬ g0 = g2 ∧ ¬ g1 = g2 ∧ w.heap.size ≤ g2) := Lib.hid ⟨by omega, by omega, by have := K1.out.hB.size; omega⟩
  rw [hg2] at kd ⊢
  clear hg2 K1 hl0 hl1
  generalize w2.alloc (.cells #[.int .i64 h.kind, .int .i64 h.frm, .int .i64 h.to, .int .u64 h.mine, .int .u64 h.yours, .int .u64 h.a, .int .u64 h.b, .int .i64 h.inode, .int .u64 h.iseq, .int .i64 h.ioff, .int .i64 h.bn.node, .int .u64 h.bn.seq, .int .i64 h.bn.off, .int .i64 h.bn.dest, .int .i64 h.bn.prio, .int .i64 h.bn.born, .int .i64 h.bn.life, .int .i64 h.bn.total, .string h.bn.data] 51) = w3 at kd kb kc hB ⊢
  have x8 : w3.cell? ⟨g0, 8, none⟩ = some (.int .u64 p.r.g) := kb.cell 8
  have z5 : w3.cell? ⟨g2, 5, none⟩ = some (.int .u64 h.a) := kd.cell 5
  have f5 : w3.frozen? ⟨g2, 5, none⟩ = false := kd.frozen 5
  go_upto_region 4 with fail
  replace kd : Blk (w3.setCell ⟨g2, 5, none⟩ (.int .u64 p.r.g)) g2 51 #[.int .i64 h.kind, .int .i64 h.frm, .int .i64 h.to, .int .u64 h.mine, .int .u64 h.yours, .int .u64 p.r.g, .int .u64 h.b, .int .i64 h.inode, .int .u64 h.iseq, .int .i64 h.ioff, .int .i64 h.bn.node, .int .u64 h.bn.seq, .int .i64 h.bn.off, .int .i64 h.bn.dest, .int .i64 h.bn.prio, .int .i64 h.bn.born, .int .i64 h.bn.life, .int .i64 h.bn.total, .string h.bn.data] := by
    have k := kd.set 5 (.int .u64 p.r.g)
    rw [show Array.setIfInBounds (#[.int .i64 h.kind, .int .i64 h.frm, .int .i64 h.to, .int .u64 h.mine, .int .u64 h.yours, .int .u64 h.a, .int .u64 h.b, .int .i64 h.inode, .int .u64 h.iseq, .int .i64 h.ioff, .int .i64 h.bn.node, .int .u64 h.bn.seq, .int .i64 h.bn.off, .int .i64 h.bn.dest, .int .i64 h.bn.prio, .int .i64 h.bn.born, .int .i64 h.bn.life, .int .i64 h.bn.total, .string h.bn.data] : Array Value) 5 (.int .u64 p.r.g) = #[.int .i64 h.kind, .int .i64 h.frm, .int .i64 h.to, .int .u64 h.mine, .int .u64 h.yours, .int .u64 p.r.g, .int .u64 h.b, .int .i64 h.inode, .int .u64 h.iseq, .int .i64 h.ioff, .int .i64 h.bn.node, .int .u64 h.bn.seq, .int .i64 h.bn.off, .int .i64 h.bn.dest, .int .i64 h.bn.prio, .int .i64 h.bn.born, .int .i64 h.bn.life, .int .i64 h.bn.total, .string h.bn.data] by kernel_rfl] at k
    exact k
  replace kc := kc.far (p := ⟨g2, 5, none⟩) NE.out.2.1 (.int .u64 p.r.g)
  replace hB := hB.setCell (p := ⟨g2, 5, none⟩) NE.out.2.2 (.int .u64 p.r.g)
  clear x8 z5 f5 kb
  generalize w3.setCell ⟨g2, 5, none⟩ (.int .u64 p.r.g) = w4 at kd kc hB ⊢
  go_wp2_with (first | (refine wpList_load_row (by rfl) 51 _ (by rfl) g2 (by rfl) 51 #[.int .i64 h.kind, .int .i64 h.frm, .int .i64 h.to, .int .u64 h.mine, .int .u64 h.yours, .int .u64 p.r.g, .int .u64 h.b, .int .i64 h.inode, .int .u64 h.iseq, .int .i64 h.ioff, .int .i64 h.bn.node, .int .u64 h.bn.seq, .int .i64 h.bn.off, .int .i64 h.bn.dest, .int .i64 h.bn.prio, .int .i64 h.bn.born, .int .i64 h.bn.life, .int .i64 h.bn.total, .string h.bn.data] (0, 0) _ kd Try.underlying51 (by rfl) (by kernel_rfl) ?_) | (refine wpList_store_mid (by rfl) 51 _ _ (by rfl) g1 0 #[.int .i64 h.kind, .int .i64 h.frm, .int .i64 h.to, .int .u64 h.mine, .int .u64 h.yours, .int .u64 p.r.g, .int .u64 h.b, .int .i64 h.inode, .int .u64 h.iseq, .int .i64 h.ioff, .int .i64 h.bn.node, .int .u64 h.bn.seq, .int .i64 h.bn.off, .int .i64 h.bn.dest, .int .i64 h.bn.prio, .int .i64 h.bn.born, .int .i64 h.bn.life, .int .i64 h.bn.total, .string h.bn.data] (by rfl) (by rfl) (Blk.there kc 0 _ (Nat.le_refl 19)) (by kernel_rfl) (one19 ..) ?_))
  refine bodyPost_ret (results_cell_t rfl _ _ g1 51 #[.int .i64 h.kind, .int .i64 h.frm, .int .i64 h.to, .int .u64 h.mine, .int .u64 h.yours, .int .u64 p.r.g, .int .u64 h.b, .int .i64 h.inode, .int .u64 h.iseq, .int .i64 h.ioff, .int .i64 h.bn.node, .int .u64 h.bn.seq, .int .i64 h.bn.off, .int .i64 h.bn.dest, .int .i64 h.bn.prio, .int .i64 h.bn.born, .int .i64 h.bn.life, .int .i64 h.bn.total, .string h.bn.data] (0, 0) _ rfl (Blk.setAll kc rfl) Try.underlying51 (by rfl) (by kernel_rfl)) rfl ?_
  exact ⟨rfl, below_setCells HG.out _ _ hB⟩

set_option maxRecDepth 100000 in
set_option maxHeartbeats 4000000 in
theorem Report_yes (p : Pr) (A0 : Option Addr) (a0 : Nat) (B0 : Option Addr) (b0 : Nat) (C0 : Option Addr) (c0 : Nat) (node boot : Int) (w : World) (h : Fr) (BG : ∀ w', Below w.heap.size w w' → Calls Try.prog 70 #[.agg #[.int .i64 p.node, .int .u64 p.theirs, .bool p.sure, .int .u64 p.old, .int .u64 p.s.g, .int .u64 p.s.n, .int .u64 p.s.r, .slice A0 p.s.sl.length a0, .int .u64 p.r.g, .int .u64 p.r.r, .int .u64 p.r.fl, .slice B0 p.r.tk.length b0, .slice C0 p.r.kp.length c0], .int .i64 node, .int .u64 boot, .int .i64 4] w' (fun e w'' => e = .returned (.tuple #[.agg #[.int .i64 h.kind, .int .i64 h.frm, .int .i64 h.to, .int .u64 h.mine, .int .u64 h.yours, .int .u64 h.a, .int .u64 h.b, .int .i64 h.inode, .int .u64 h.iseq, .int .i64 h.ioff, .int .i64 h.bn.node, .int .u64 h.bn.seq, .int .i64 h.bn.off, .int .i64 h.bn.dest, .int .i64 h.bn.prio, .int .i64 h.bn.born, .int .i64 h.bn.life, .int .i64 h.bn.total, .string h.bn.data], .int .i64 0]) ∧ Below w'.heap.size w' w'')) (fl fe : Int) (FL : ∀ w', Below w.heap.size w w' → Calls Try.prog 73 #[.agg #[.int .u64 p.s.g, .int .u64 p.s.n, .int .u64 p.s.r, .slice A0 p.s.sl.length a0]] w' (Ret2 .u64 .i64 fl fe w')) :
    Calls Try.prog 37 #[.agg #[.int .i64 p.node, .int .u64 p.theirs, .bool p.sure, .int .u64 p.old, .int .u64 p.s.g, .int .u64 p.s.n, .int .u64 p.s.r, .slice A0 p.s.sl.length a0, .int .u64 p.r.g, .int .u64 p.r.r, .int .u64 p.r.fl, .slice B0 p.r.tk.length b0, .slice C0 p.r.kp.length c0], .int .i64 node, .int .u64 boot] w (fun e w' => e = .returned (.tuple #[.agg #[.int .i64 h.kind, .int .i64 h.frm, .int .i64 h.to, .int .u64 h.mine, .int .u64 h.yours, .int .u64 fl, .int .u64 p.s.r, .int .i64 h.inode, .int .u64 h.iseq, .int .i64 h.ioff, .int .i64 h.bn.node, .int .u64 h.bn.seq, .int .i64 h.bn.off, .int .i64 h.bn.dest, .int .i64 h.bn.prio, .int .i64 h.bn.born, .int .i64 h.bn.life, .int .i64 h.bn.total, .string h.bn.data], .int .i64 0]) ∧ Below w.heap.size w w') := by
  have BG' := Lib.hid BG
  clear BG
  have FL' := Lib.hid FL
  clear FL
  go_enter Try.func37, Try.ntmps37
  go_upto_region 1 with (refine wpList_alloc_z (by rfl) 51 (by rfl) _ rfl _ zeroFr ?_)
  try simp only [World.size_alloc, Act.put, List.setIfInBounds_toArray, List.set_cons_zero, List.set_cons_succ]
  have k0 : BK2 w w.heap.size 31 #[.int .i64 p.node, .int .u64 p.theirs, .bool p.sure, .int .u64 p.old, .int .u64 p.s.g, .int .u64 p.s.n, .int .u64 p.s.r, .slice A0 p.s.sl.length a0, .int .u64 p.r.g, .int .u64 p.r.r, .int .u64 p.r.fl, .slice B0 p.r.tk.length b0, .slice C0 p.r.kp.length c0] (w.heap.size + 1) 51 #[.int .i64 0, .int .i64 0, .int .i64 0, .int .u64 0, .int .u64 0, .int .u64 0, .int .u64 0, .int .i64 0, .int .u64 0, .int .i64 0, .int .i64 0, .int .u64 0, .int .i64 0, .int .i64 0, .int .i64 0, .int .i64 0, .int .i64 0, .int .i64 0, .string ⟨#[]⟩] _ := ⟨(Blk.new w 31 #[.int .i64 p.node, .int .u64 p.theirs, .bool p.sure, .int .u64 p.old, .int .u64 p.s.g, .int .u64 p.s.n, .int .u64 p.s.r, .slice A0 p.s.sl.length a0, .int .u64 p.r.g, .int .u64 p.r.r, .int .u64 p.r.fl, .slice B0 p.r.tk.length b0, .slice C0 p.r.kp.length c0]).alloc (.cells #[.int .i64 0, .int .i64 0, .int .i64 0, .int .u64 0, .int .u64 0, .int .u64 0, .int .u64 0, .int .i64 0, .int .u64 0, .int .i64 0, .int .i64 0, .int .u64 0, .int .i64 0, .int .i64 0, .int .i64 0, .int .i64 0, .int .i64 0, .int .i64 0, .string ⟨#[]⟩] 51), Blk.new1 w (.cells #[.int .i64 p.node, .int .u64 p.theirs, .bool p.sure, .int .u64 p.old, .int .u64 p.s.g, .int .u64 p.s.n, .int .u64 p.s.r, .slice A0 p.s.sl.length a0, .int .u64 p.r.g, .int .u64 p.r.r, .int .u64 p.r.fl, .slice B0 p.r.tk.length b0, .slice C0 p.r.kp.length c0] 31) 51 #[.int .i64 0, .int .i64 0, .int .i64 0, .int .u64 0, .int .u64 0, .int .u64 0, .int .u64 0, .int .i64 0, .int .u64 0, .int .i64 0, .int .i64 0, .int .u64 0, .int .i64 0, .int .i64 0, .int .i64 0, .int .i64 0, .int .i64 0, .int .i64 0, .string ⟨#[]⟩], bal (bal (Below.refl _ _) (.cells #[.int .i64 p.node, .int .u64 p.theirs, .bool p.sure, .int .u64 p.old, .int .u64 p.s.g, .int .u64 p.s.n, .int .u64 p.s.r, .slice A0 p.s.sl.length a0, .int .u64 p.r.g, .int .u64 p.r.r, .int .u64 p.r.fl, .slice B0 p.r.tk.length b0, .slice C0 p.r.kp.length c0] 31)) (.cells #[.int .i64 0, .int .i64 0, .int .i64 0, .int .u64 0, .int .u64 0, .int .u64 0, .int .u64 0, .int .i64 0, .int .u64 0, .int .i64 0, .int .i64 0, .int .u64 0, .int .i64 0, .int .i64 0, .int .i64 0, .int .i64 0, .int .i64 0, .int .i64 0, .string ⟨#[]⟩] 51)⟩
  obtain ⟨g1, hg1⟩ : ∃ g1, w.heap.size + 1 = g1 := ⟨_, rfl⟩
  have HG : Hid (w.heap.size ≤ g1) := Lib.hid (by omega)
  rw [hg1] at k0 ⊢
  clear hg1
  obtain ⟨g0, hg0⟩ : ∃ g0, w.heap.size = g0 := ⟨_, rfl⟩
  rw [hg0] at k0 ⊢
  clear hg0
  generalize (w.alloc (.cells #[.int .i64 p.node, .int .u64 p.theirs, .bool p.sure, .int .u64 p.old, .int .u64 p.s.g, .int .u64 p.s.n, .int .u64 p.s.r, .slice A0 p.s.sl.length a0, .int .u64 p.r.g, .int .u64 p.r.r, .int .u64 p.r.fl, .slice B0 p.r.tk.length b0, .slice C0 p.r.kp.length c0] 31)).alloc (.cells #[.int .i64 0, .int .i64 0, .int .i64 0, .int .u64 0, .int .u64 0, .int .u64 0, .int .u64 0, .int .i64 0, .int .u64 0, .int .i64 0, .int .i64 0, .int .u64 0, .int .i64 0, .int .i64 0, .int .i64 0, .int .i64 0, .int .i64 0, .int .i64 0, .string ⟨#[]⟩] 51) = w1 at k0 ⊢
  have K1 := Lib.hid k0
  have kb := k0.b
  have kc := k0.c
  clear k0
  go_wp2_with (refine wpList_load_row (by rfl) 31 _ (by rfl) g0 (by rfl) 31 #[.int .i64 p.node, .int .u64 p.theirs, .bool p.sure, .int .u64 p.old, .int .u64 p.s.g, .int .u64 p.s.n, .int .u64 p.s.r, .slice A0 p.s.sl.length a0, .int .u64 p.r.g, .int .u64 p.r.r, .int .u64 p.r.fl, .slice B0 p.r.tk.length b0, .slice C0 p.r.kp.length c0] (0, 0) _ kb Try.underlying31 (by rfl) (by kernel_rfl) ?_)
  refine (BG'.out _ K1.out.hB).mono ?_
  rintro e w2 ⟨rfl, hb1⟩
  have kk := K1.out.below hb1
  clear K1 kb kc hb1 
  have kb := kk.b
  have kc := kk.c
  have hl0 := kb.lt
  have hl1 := kc.lt
  have K1 := Lib.hid kk
  clear kk
  go_upto_region 2 with (first | (refine wpList_alloc_z (by rfl) 51 (by rfl) _ rfl _ zeroFr ?_) | (refine wpList_store_new (by rfl) 51 _ _ (by rfl) w2 #[.int .i64 0, .int .i64 0, .int .i64 0, .int .u64 0, .int .u64 0, .int .u64 0, .int .u64 0, .int .i64 0, .int .u64 0, .int .i64 0, .int .i64 0, .int .u64 0, .int .i64 0, .int .i64 0, .int .i64 0, .int .i64 0, .int .i64 0, .int .i64 0, .string ⟨#[]⟩] #[.int .i64 h.kind, .int .i64 h.frm, .int .i64 h.to, .int .u64 h.mine, .int .u64 h.yours, .int .u64 h.a, .int .u64 h.b, .int .i64 h.inode, .int .u64 h.iseq, .int .i64 h.ioff, .int .i64 h.bn.node, .int .u64 h.bn.seq, .int .i64 h.bn.off, .int .i64 h.bn.dest, .int .i64 h.bn.prio, .int .i64 h.bn.born, .int .i64 h.bn.life, .int .i64 h.bn.total, .string h.bn.data] rfl (by rfl) (by rfl) (by kernel_rfl) rfl (one19 ..) ?_))
  have kd := Blk.new w2 51 #[.int .i64 h.kind, .int .i64 h.frm, .int .i64 h.to, .int .u64 h.mine, .int .u64 h.yours, .int .u64 h.a, .int .u64 h.b, .int .i64 h.inode, .int .u64 h.iseq, .int .i64 h.ioff, .int .i64 h.bn.node, .int .u64 h.bn.seq, .int .i64 h.bn.off, .int .i64 h.bn.dest, .int .i64 h.bn.prio, .int .i64 h.bn.born, .int .i64 h.bn.life, .int .i64 h.bn.total, .string h.bn.data]
  replace kb := kb.alloc (.cells #[.int .i64 h.kind, .int .i64 h.frm, .int .i64 h.to, .int .u64 h.mine, .int .u64 h.yours, .int .u64 h.a, .int .u64 h.b, .int .i64 h.inode, .int .u64 h.iseq, .int .i64 h.ioff, .int .i64 h.bn.node, .int .u64 h.bn.seq, .int .i64 h.bn.off, .int .i64 h.bn.dest, .int .i64 h.bn.prio, .int .i64 h.bn.born, .int .i64 h.bn.life, .int .i64 h.bn.total, .string h.bn.data] 51)
  replace kc := kc.alloc (.cells #[.int .i64 h.kind, .int .i64 h.frm, .int .i64 h.to, .int .u64 h.mine, .int .u64 h.yours, .int .u64 h.a, .int .u64 h.b, .int .i64 h.inode, .int .u64 h.iseq, .int .i64 h.ioff, .int .i64 h.bn.node, .int .u64 h.bn.seq, .int .i64 h.bn.off, .int .i64 h.bn.dest, .int .i64 h.bn.prio, .int .i64 h.bn.born, .int .i64 h.bn.life, .int .i64 h.bn.total, .string h.bn.data] 51)
  have hB := bal K1.out.hB (.cells #[.int .i64 h.kind, .int .i64 h.frm, .int .i64 h.to, .int .u64 h.mine, .int .u64 h.yours, .int .u64 h.a, .int .u64 h.b, .int .i64 h.inode, .int .u64 h.iseq, .int .i64 h.ioff, .int .i64 h.bn.node, .int .u64 h.bn.seq, .int .i64 h.bn.off, .int .i64 h.bn.dest, .int .i64 h.bn.prio, .int .i64 h.bn.born, .int .i64 h.bn.life, .int .i64 h.bn.total, .string h.bn.data] 51)
  obtain ⟨g2, hg2⟩ : ∃ g2, w2.heap.size = g2 := ⟨_, rfl⟩
  have NE : Hid (¬ g0 = g2 ∧ ¬ g1 = g2 ∧ w.heap.size ≤ g2) := Lib.hid ⟨by omega, by omega, by have := K1.out.hB.size; omega⟩
  rw [hg2] at kd ⊢
  clear hg2 K1 hl0 hl1
  generalize w2.alloc (.cells #[.int .i64 h.kind, .int .i64 h.frm, .int .i64 h.to, .int .u64 h.mine, .int .u64 h.yours, .int .u64 h.a, .int .u64 h.b, .int .i64 h.inode, .int .u64 h.iseq, .int .i64 h.ioff, .int .i64 h.bn.node, .int .u64 h.bn.seq, .int .i64 h.bn.off, .int .i64 h.bn.dest, .int .i64 h.bn.prio, .int .i64 h.bn.born, .int .i64 h.bn.life, .int .i64 h.bn.total, .string h.bn.data] 51) = w3 at kd kb kc hB ⊢
  obtain ⟨x0, x1, x2, x3, x4, x5, x6, x7, x8, x9, x10, x11, x12⟩ := kb.c13
  go_wp2_with fail
  refine (FL'.out _ hB).mono ?_
  rintro e w4 ⟨rfl, hb1⟩
  replace kb := kb.below hb1
  replace kc := kc.below hb1
  replace kd := kd.below hb1
  have hB4 := bnext hB hb1
  clear hb1 hB x0 x1 x2 x3 x4 x5 x6 x7 x8 x9 x10 x11 x12
  have x6 : w4.cell? ⟨g0, 6, none⟩ = some (.int .u64 p.s.r) := kb.cell 6
  have z5 : w4.cell? ⟨g2, 5, none⟩ = some (.int .u64 h.a) := kd.cell 5
  have f5 : w4.frozen? ⟨g2, 5, none⟩ = false := kd.frozen 5
  have z6 : w4.cell? ⟨g2, 6, none⟩ = some (.int .u64 h.b) := kd.cell 6
  have f6 : w4.frozen? ⟨g2, 6, none⟩ = false := kd.frozen 6
  have ne0 : ¬ g0 = g2 := NE.out.1
  have ne1 : ¬ g2 = g0 := fun h => NE.out.1 h.symm
  go_upto_region 5 with fail
  replace kd : Blk ((w4.setCell ⟨g2, 5, none⟩ (.int .u64 fl)).setCell ⟨g2, 6, none⟩ (.int .u64 p.s.r)) g2 51 #[.int .i64 h.kind, .int .i64 h.frm, .int .i64 h.to, .int .u64 h.mine, .int .u64 h.yours, .int .u64 fl, .int .u64 p.s.r, .int .i64 h.inode, .int .u64 h.iseq, .int .i64 h.ioff, .int .i64 h.bn.node, .int .u64 h.bn.seq, .int .i64 h.bn.off, .int .i64 h.bn.dest, .int .i64 h.bn.prio, .int .i64 h.bn.born, .int .i64 h.bn.life, .int .i64 h.bn.total, .string h.bn.data] := by
    have k := (kd.set 5 (.int .u64 fl)).set 6 (.int .u64 p.s.r)
    rw [show Array.setIfInBounds (Array.setIfInBounds (#[.int .i64 h.kind, .int .i64 h.frm, .int .i64 h.to, .int .u64 h.mine, .int .u64 h.yours, .int .u64 h.a, .int .u64 h.b, .int .i64 h.inode, .int .u64 h.iseq, .int .i64 h.ioff, .int .i64 h.bn.node, .int .u64 h.bn.seq, .int .i64 h.bn.off, .int .i64 h.bn.dest, .int .i64 h.bn.prio, .int .i64 h.bn.born, .int .i64 h.bn.life, .int .i64 h.bn.total, .string h.bn.data] : Array Value) 5 (.int .u64 fl)) 6 (.int .u64 p.s.r) = #[.int .i64 h.kind, .int .i64 h.frm, .int .i64 h.to, .int .u64 h.mine, .int .u64 h.yours, .int .u64 fl, .int .u64 p.s.r, .int .i64 h.inode, .int .u64 h.iseq, .int .i64 h.ioff, .int .i64 h.bn.node, .int .u64 h.bn.seq, .int .i64 h.bn.off, .int .i64 h.bn.dest, .int .i64 h.bn.prio, .int .i64 h.bn.born, .int .i64 h.bn.life, .int .i64 h.bn.total, .string h.bn.data] by kernel_rfl] at k
    exact k
  replace kc := (kc.far (p := ⟨g2, 5, none⟩) NE.out.2.1 (.int .u64 fl)).far (p := ⟨g2, 6, none⟩) NE.out.2.1 (.int .u64 p.s.r)
  have hB := (hB4.setCell (p := ⟨g2, 5, none⟩) NE.out.2.2 (.int .u64 fl)).setCell (p := ⟨g2, 6, none⟩) NE.out.2.2 (.int .u64 p.s.r)
  clear x6 z5 f5 z6 f6 kb hB4
  generalize (w4.setCell ⟨g2, 5, none⟩ (.int .u64 fl)).setCell ⟨g2, 6, none⟩ (.int .u64 p.s.r) = w5 at kd kc hB ⊢
  go_wp2_with (first | (refine wpList_load_row (by rfl) 51 _ (by rfl) g2 (by rfl) 51 #[.int .i64 h.kind, .int .i64 h.frm, .int .i64 h.to, .int .u64 h.mine, .int .u64 h.yours, .int .u64 fl, .int .u64 p.s.r, .int .i64 h.inode, .int .u64 h.iseq, .int .i64 h.ioff, .int .i64 h.bn.node, .int .u64 h.bn.seq, .int .i64 h.bn.off, .int .i64 h.bn.dest, .int .i64 h.bn.prio, .int .i64 h.bn.born, .int .i64 h.bn.life, .int .i64 h.bn.total, .string h.bn.data] (0, 0) _ kd Try.underlying51 (by rfl) (by kernel_rfl) ?_) | (refine wpList_store_mid (by rfl) 51 _ _ (by rfl) g1 0 #[.int .i64 h.kind, .int .i64 h.frm, .int .i64 h.to, .int .u64 h.mine, .int .u64 h.yours, .int .u64 fl, .int .u64 p.s.r, .int .i64 h.inode, .int .u64 h.iseq, .int .i64 h.ioff, .int .i64 h.bn.node, .int .u64 h.bn.seq, .int .i64 h.bn.off, .int .i64 h.bn.dest, .int .i64 h.bn.prio, .int .i64 h.bn.born, .int .i64 h.bn.life, .int .i64 h.bn.total, .string h.bn.data] (by rfl) (by rfl) (Blk.there kc 0 _ (Nat.le_refl 19)) (by kernel_rfl) (one19 ..) ?_))
  refine bodyPost_ret (results_cell_t rfl _ _ g1 51 #[.int .i64 h.kind, .int .i64 h.frm, .int .i64 h.to, .int .u64 h.mine, .int .u64 h.yours, .int .u64 fl, .int .u64 p.s.r, .int .i64 h.inode, .int .u64 h.iseq, .int .i64 h.ioff, .int .i64 h.bn.node, .int .u64 h.bn.seq, .int .i64 h.bn.off, .int .i64 h.bn.dest, .int .i64 h.bn.prio, .int .i64 h.bn.born, .int .i64 h.bn.life, .int .i64 h.bn.total, .string h.bn.data] (0, 0) _ rfl (Blk.setAll kc rfl) Try.underlying51 (by rfl) (by kernel_rfl)) rfl ?_
  exact ⟨rfl, below_setCells HG.out _ _ hB⟩

theorem Hello_any (p : Pr) (hw : WfP p) (node boot : Int) (V : Value) (w : World) (hV : PrAt w V p) (c1 : chkP p = 0) (hn : ¬ (node < 1 ∨ 16 < node ∨ node = p.node ∨ ¬ bootOk boot)) : Calls Try.prog 25 #[V, .int .i64 node, .int .u64 boot] w (RetFE (gfr p node boot 1 0 0) (begE p node boot 1) w) := by
  have HV := hV
  obtain ⟨vs, vt, vk, rfl, hs, ht, hk⟩ := hV
  obtain ⟨As, cs, rfl⟩ := hs.form
  obtain ⟨At, ct, rfl⟩ := ht.form
  obtain ⟨Ak, ck, rfl⟩ := hk.form
  exact Hello_raw p _ _ _ _ _ _ node boot w _ _ (fun w' hb => begin_any p hw node boot 1 _ w' (HV.below hb) c1 hn)

theorem Grant_any (p : Pr) (hw : WfP p) (node boot : Int) (V : Value) (w : World) (hV : PrAt w V p) (c1 : chkP p = 0) (hn : ¬ (node < 1 ∨ 16 < node ∨ node = p.node ∨ ¬ bootOk boot)) : Calls Try.prog 32 #[V, .int .i64 node, .int .u64 boot] w (RetFE (gfr p node boot 2 p.r.g 0) (begE p node boot 2) w) := by
  have HV := hV
  obtain ⟨vs, vt, vk, rfl, hs, ht, hk⟩ := hV
  obtain ⟨As, cs, rfl⟩ := hs.form
  obtain ⟨At, ct, rfl⟩ := ht.form
  obtain ⟨Ak, ck, rfl⟩ := hk.form
  have BG := fun w' (hb : Below w.heap.size w w') => begin_any p hw node boot 2 _ w' (HV.below hb) c1 hn
  by_cases h0 : begE p node boot 2 = 0
  · have e1 : gfr p node boot 2 0 0 = frB p node boot 2 0 0 := if_pos h0
    have e2 : gfr p node boot 2 p.r.g 0 = frB p node boot 2 p.r.g 0 := if_pos h0
    rw [h0, e1] at BG
    rw [h0, e2]
    exact Grant_yes p _ _ _ _ _ _ node boot w (frB p node boot 2 0 0) BG
  · have e1 : gfr p node boot 2 0 0 = zFr := if_neg h0
    have e2 : gfr p node boot 2 p.r.g 0 = zFr := if_neg h0
    rw [e1] at BG
    rw [e2]
    exact Grant_no p _ _ _ _ _ _ node boot w _ _ BG h0

theorem Report_any (p : Pr) (hw : WfP p) (node boot : Int) (V : Value) (w : World) (hV : PrAt w V p) (c1 : chkP p = 0) (hn : ¬ (node < 1 ∨ 16 < node ∨ node = p.node ∨ ¬ bootOk boot)) : Calls Try.prog 37 #[V, .int .i64 node, .int .u64 boot] w (RetFE (gfr p node boot 4 (flE p.s) p.s.r) (begE p node boot 4) w) := by
  have HV := hV
  obtain ⟨vs, vt, vk, rfl, hs, ht, hk⟩ := hV
  obtain ⟨As, cs, rfl⟩ := hs.form
  obtain ⟨At, ct, rfl⟩ := ht.form
  obtain ⟨Ak, ck, rfl⟩ := hk.form
  have BG := fun w' (hb : Below w.heap.size w w') => begin_any p hw node boot 4 _ w' (HV.below hb) c1 hn
  have FL := fun w' (hb : Below w.heap.size w w') => Floor_any p.s hw.s _ w' (hs.below hb)
  by_cases h0 : begE p node boot 4 = 0
  · have e1 : gfr p node boot 4 0 0 = frB p node boot 4 0 0 := if_pos h0
    have e2 : gfr p node boot 4 (flE p.s) p.s.r = frB p node boot 4 (flE p.s) p.s.r := if_pos h0
    rw [h0, e1] at BG
    rw [h0, e2]
    exact Report_yes p _ _ _ _ _ _ node boot w (frB p node boot 4 0 0) BG _ _ FL
  · have e1 : gfr p node boot 4 0 0 = zFr := if_neg h0
    have e2 : gfr p node boot 4 (flE p.s) p.s.r = zFr := if_neg h0
    rw [e1] at BG
    rw [e2]
    exact Report_no p _ _ _ _ _ _ node boot w _ _ BG h0

end Go.Proofs.Ytfgkkflbpfocjaa

