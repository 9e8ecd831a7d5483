/- The examples that every law of this package asks. -/
import Derived.Test.YtfgkkflbpfocjaaZc38
import Derived.Test.YtfgkkflbpfocjaaZc15
namespace Go.Proofs.Ytfgkkflbpfocjaa
open Go.RowKit
open List renaming getElem_toArray → zz1, getElem_cons_succ → zz2, getElem_cons_zero → zz3, setIfInBounds_toArray → zz4, set_cons_zero → zz5, set_cons_succ → zz6
set_option linter.unusedVariables false
set_option linter.unusedSimpArgs false

theorem RowB.anyw {B k : Nat} {w : World} {v : Value} (h : RowB B w k v 0 []) (w' : World) : RowB B w' k v 0 [] := by
  obtain ⟨A, c, rfl, h1, h2, h3, _⟩ := h
  exact ⟨A, c, rfl, h1, h2, h3, fun h => absurd h (by omega)⟩
theorem PrB.anyw {B : Nat} {w : World} {V : Value} {p : Pr} (h : PrB B w V p) {w' : World} (h1 : p.s.sl = []) (h2 : p.r.tk = []) (h3 : p.r.kp = []) : PrB B w' V p := by
  obtain ⟨As, cs, At, ct, Ak, ck, rfl, r1, r2, r3⟩ := h
  rw [h1] at r1
  rw [h2] at r2
  rw [h3] at r3
  refine ⟨_, _, _, _, _, _, rfl, ?_, ?_, ?_⟩
  · rw [h1]; exact RowB.anyw r1 w'
  · rw [h2]; exact RowB.anyw r2 w'
  · rw [h3]; exact RowB.anyw r3 w'

theorem meets_any (p : Pr) (hw : WfP p) (f : Fr) (hf : WfF f) (q : Pr) (v : Int) (ow : Bool) (h : metE p 4 f = 0) (hm : met p 4 f = (q, v, ow)) (hn : q.node = 2) (V : Value) (w : World) (hV : PrAt w V p) :
    Calls Try.prog 30 #[V, f.val, .int .i64 v, .bool ow, .int .u64 q.theirs, .bool q.sure] w (fun e w' => ∃ V', e = .returned (.tuple #[V', .bool true]) ∧ PrB w.heap.size w' V' q ∧ Below w.heap.size w w') := by
  have MT : ∀ w', Below w.heap.size w w' → Calls Try.prog 18 #[V, .int .u64 4, f.val] w' (RetMet (q, v, ow) 0 w') := fun w' hb => by
    have := Meet_any p hw 4 f hf V w' (hV.below hb) h
    rwa [mtV, if_pos h, hm, h] at this
  obtain ⟨vs, vt, vk, rfl, hs, ht, hk⟩ := hV
  obtain ⟨As, cs, rfl⟩ := hs.form
  obtain ⟨At, ct, rfl⟩ := ht.form
  obtain ⟨Ak, ck, rfl⟩ := hk.form
  refine (meets_raw _ _ _ _ _ _ _ _ _ _ _ _ _ _ _ _ _ _ _ q.theirs q.old q.sure q.s.g q.s.n q.s.r q.s.sl.length q.s.sl q.r.g q.r.r q.r.fl q.r.tk.length q.r.tk q.r.kp.length q.r.kp f.kind f.frm f.to f.mine f.yours f.a f.b f.inode f.iseq f.ioff f.bn.node f.bn.seq f.bn.off f.bn.dest f.bn.prio f.bn.born f.bn.life f.bn.total f.bn.data v ow w ?_).mono ?_
  · intro w' hb
    refine (MT w' hb).mono ?_
    rintro e w'' ⟨V', rfl, ⟨As', cs', At', ct', Ak', ck', rfl, h1, h2, h3⟩, hb'⟩
    exact ⟨As', cs', At', ct', Ak', ck', by rw [← hn], ⟨h1, h2, h3⟩, hb'⟩
  · rintro e w' ⟨As', cs', At', ct', Ak', ck', rfl, ⟨h1, h2, h3⟩, hb⟩
    exact ⟨_, rfl, ⟨As', cs', At', ct', Ak', ck', by rw [← hn], h1, h2, h3⟩, hb⟩

def p0 : Pr := ⟨2, 0, false, 0, zSend, zRec⟩
def p1 : Pr := ⟨2, 7, false, 0, zSend, zRec⟩
def p2 : Pr := ⟨2, 7, true, 0, zSend, zRec⟩
theorem wfP_small (node th : Int) (su : Bool) (old : Int) (h1 : 0 ≤ th ∧ th ≤ 100) (h2 : 0 ≤ old ∧ old ≤ 100) : WfP ⟨node, th, su, old, zSend, zRec⟩ :=
  ⟨by dsimp only; omega, by dsimp only; omega, wf_z, wfR_z⟩
theorem wfF_hlo (m y : Int) (h1 : 0 ≤ m ∧ m ≤ 18446744073709551615) (h2 : 0 ≤ y ∧ y ≤ 18446744073709551615) : WfF (hlo m y) := ⟨h1, h2, (by decide : (0 : Int) ≤ 0 ∧ (0 : Int) ≤ 18446744073709551615), (by decide : (0 : Int) ≤ 0 ∧ (0 : Int) ≤ 18446744073709551615)⟩

theorem aw1 : metE p0 4 (hlo 7 0) = 0 := by kernel_rfl
theorem aw2 : met p0 4 (hlo 7 0) = (p1, 2, true) := by kernel_rfl
theorem aw3 : metE p1 4 (hlo 7 4) = 0 := by kernel_rfl
theorem aw4 : met p1 4 (hlo 7 4) = (p2, 3, false) := by kernel_rfl

set_option maxRecDepth 100000 in
set_option maxHeartbeats 1000000 in
theorem awake_any (w : World) : Calls Try.prog 12 #[] w (RetB true w) := by
  go_enter Try.func12, Try.ntmps12
  go_upto_region 2 with fail
  refine (hello_any 7 0 w).mono ?_
  rintro e w1 ⟨rfl, hb1⟩
  go_upto_region 2 with fail
  refine (meets_any p0 (wfP_small 2 0 false 0 (by decide) (by decide)) (hlo 7 0) (wfF_hlo 7 0 (by decide) (by decide)) p1 2 true aw1 aw2 rfl _ _ (zPr_at' 0 w1 2 0 false 0).at).mono ?_
  rintro e w2 ⟨V1, rfl, ⟨A1, c1, B1, d1, C1, e1, rfl, R1⟩, hb2⟩
  dsimp only [p1, zSend, zRec, List.length_nil] at R1 ⊢
  have hB2 := hb1.trans (hb2.mono hb1.size)
  clear hb1 hb2
  go_upto_region 2 with (first | (refine wpList_alloc_z (by rfl) 31 (by rfl) _ rfl #[.int .i64 0, .int .u64 0, .bool false, .int .u64 0, .int .u64 0, .int .u64 0, .int .u64 0, .slice none 0 0, .int .u64 0, .int .u64 0, .int .u64 0, .slice none 0 0, .slice none 0 0] (fun w => by kernel_rfl) ?_) | (refine wpList_store_new (by rfl) 31 _ _ (by rfl) w2 #[.int .i64 0, .int .u64 0, .bool false, .int .u64 0, .int .u64 0, .int .u64 0, .int .u64 0, .slice none 0 0, .int .u64 0, .int .u64 0, .int .u64 0, .slice none 0 0, .slice none 0 0] #[.int .i64 2, .int .u64 7, .bool false, .int .u64 0, .int .u64 0, .int .u64 0, .int .u64 0, .slice A1 0 c1, .int .u64 0, .int .u64 0, .int .u64 0, .slice B1 0 d1, .slice C1 0 e1] rfl (by rfl) (by rfl) (by kernel_rfl) rfl (by kernel_rfl) ?_))
  have k1 := Blk.new w2 31 #[.int .i64 2, .int .u64 7, .bool false, .int .u64 0, .int .u64 0, .int .u64 0, .int .u64 0, .slice A1 0 c1, .int .u64 0, .int .u64 0, .int .u64 0, .slice B1 0 d1, .slice C1 0 e1]
  have hB := bal hB2 (.cells #[.int .i64 2, .int .u64 7, .bool false, .int .u64 0, .int .u64 0, .int .u64 0, .int .u64 0, .slice A1 0 c1, .int .u64 0, .int .u64 0, .int .u64 0, .slice B1 0 d1, .slice C1 0 e1] 31)
  have r1 : PrB 0 (w2.alloc (.cells #[.int .i64 2, .int .u64 7, .bool false, .int .u64 0, .int .u64 0, .int .u64 0, .int .u64 0, .slice A1 0 c1, .int .u64 0, .int .u64 0, .int .u64 0, .slice B1 0 d1, .slice C1 0 e1] 31)).drew (.agg #[.int .i64 2, .int .u64 7, .bool false, .int .u64 0, .int .u64 0, .int .u64 0, .int .u64 0, .slice A1 0 c1, .int .u64 0, .int .u64 0, .int .u64 0, .slice B1 0 d1, .slice C1 0 e1]) p1 := (PrB.below (w := w2) (w' := (w2.alloc (.cells #[.int .i64 2, .int .u64 7, .bool false, .int .u64 0, .int .u64 0, .int .u64 0, .int .u64 0, .slice A1 0 c1, .int .u64 0, .int .u64 0, .int .u64 0, .slice B1 0 d1, .slice C1 0 e1] 31)).drew) (PrB.low (B := w1.heap.size) ⟨A1, c1, B1, d1, C1, e1, rfl, R1⟩ (Nat.zero_le _)) (bal (Below.refl _ _) _).drew)
  obtain ⟨g1, hg1⟩ : ∃ g1, w2.heap.size = g1 := ⟨_, rfl⟩
  rw [hg1] at k1 ⊢
  generalize w2.alloc (.cells #[.int .i64 2, .int .u64 7, .bool false, .int .u64 0, .int .u64 0, .int .u64 0, .int .u64 0, .slice A1 0 c1, .int .u64 0, .int .u64 0, .int .u64 0, .slice B1 0 d1, .slice C1 0 e1] 31) = W at k1 hB r1 ⊢
  clear hg1 hB2 R1
  have k2 : Blk W.drew g1 31 #[.int .i64 2, .int .u64 7, .bool false, .int .u64 0, .int .u64 0, .int .u64 0, .int .u64 0, .slice A1 0 c1, .int .u64 0, .int .u64 0, .int .u64 0, .slice B1 0 d1, .slice C1 0 e1] := k1
  have hB3 : Below w.heap.size w W.drew := hB.drew
  refine wp_region_held_drew (S := fun wx => Below w.heap.size w wx ∧ Blk wx g1 31 #[.int .i64 2, .int .u64 7, .bool false, .int .u64 0, .int .u64 0, .int .u64 0, .int .u64 0, .slice A1 0 c1, .int .u64 0, .int .u64 0, .int .u64 0, .slice B1 0 d1, .slice C1 0 e1] ∧ PrB 0 wx (.agg #[.int .i64 2, .int .u64 7, .bool false, .int .u64 0, .int .u64 0, .int .u64 0, .int .u64 0, .slice A1 0 c1, .int .u64 0, .int .u64 0, .int .u64 0, .slice B1 0 d1, .slice C1 0 e1]) p1) (by kernel_rfl) ⟨hB3, k2, r1⟩ (fun hH => ?_)
  generalize W.drew = x0 at k2 hB3 r1 hH ⊢
  clear k1 hB
  refine tkH 0 rfl (yieldsIf_row (g1) 31 #[.int .i64 2, .int .u64 7, .bool false, .int .u64 0, .int .u64 0, .int .u64 0, .int .u64 0, .slice A1 0 c1, .int .u64 0, .int .u64 0, .int .u64 0, .slice B1 0 d1, .slice C1 0 e1] 31 _ _ rfl rfl rfl (fun w h => h.2.1) Try.underlying31 rfl (by kernel_rfl)) hH ?_
  try simp only [zz1, zz2, zz3, Act.put, zz4, zz5, zz6]
  refine rdH [1, 6] ?_
  refine AllReadyH.cons rfl (fun KK hK => ?_) ?_
  · go_simp
    refine (hello_any 7 4 _).mono ?_
    rintro e x1 ⟨rfl, hb1⟩
    refine hK.out _ _ ⟨bnext hH.1 hb1, hH.2.1.below hb1, hH.2.2.below hb1⟩ (fun hH1 => ?_)
    clear hK KK
    try simp only [zz1, zz2, zz3, Act.put, zz4, zz5, zz6]
    refine rdH [2, 6] ?_
    refine AllReadyH.cons rfl (fun KK hK => ?_) ?_
    · go_simp
      refine (meets_any p1 (wfP_small 2 7 false 0 (by decide) (by decide)) (hlo 7 4) (wfF_hlo 7 4 (by decide) (by decide)) p2 3 false aw3 aw4 rfl _ _ hH1.2.2.at).mono ?_
      rintro e x2 ⟨V2, rfl, ⟨A2, c2, B2, d2, C2, e2, rfl, R2⟩, hb2⟩
      dsimp only [p2, zSend, zRec, List.length_nil] at R2 ⊢
      refine hK.out _ _ ⟨bnext hH1.1 hb2, hH1.2.1.below hb2, hH1.2.2.below hb2⟩ (fun hH2 => ?_)
      clear hK KK
      try simp only [zz1, zz2, zz3, Act.put, zz4, zz5, zz6]
      refine tkH 3 rfl (yieldsIf_pure _ (.tuple #[.agg #[.int .i64 2, .int .u64 7, .bool true, .int .u64 0, .int .u64 0, .int .u64 0, .int .u64 0, .slice A2 0 c2, .int .u64 0, .int .u64 0, .int .u64 0, .slice B2 0 d2, .slice C2 0 e2], .bool true]) rfl (.inl rfl) rfl) hH2 ?_
      try simp only [zz1, zz2, zz3, Act.put, zz4, zz5, zz6]
      refine tkH 4 rfl (yieldsIf_cell (.agg #[.int .i64 2, .int .u64 7, .bool true, .int .u64 0, .int .u64 0, .int .u64 0, .int .u64 0, .slice A2 0 c2, .int .u64 0, .int .u64 0, .int .u64 0, .slice B2 0 d2, .slice C2 0 e2]) rfl (fun w h => by go_simp)) hH2 ?_
      try simp only [zz1, zz2, zz3, Act.put, zz4, zz5, zz6]
      refine tkH 5 rfl (yieldsIf_cell (.bool true) rfl (fun w h => by go_simp)) hH2 ?_
      try simp only [zz1, zz2, zz3, Act.put, zz4, zz5, zz6]
      refine rdH [6] ?_
      refine c1H rfl fun KK hK => ?_
      go_simp
      have hb3 := bal (Below.refl x2.heap.size x2) (.cells #[.int .i64 0, .int .u64 0, .bool false, .int .u64 0, .int .u64 0, .int .u64 0, .int .u64 0, .slice none 0 0, .int .u64 0, .int .u64 0, .int .u64 0, .slice none 0 0, .slice none 0 0] 31)
      have ka3 := Blk.new x2 31 #[.int .i64 0, .int .u64 0, .bool false, .int .u64 0, .int .u64 0, .int .u64 0, .int .u64 0, .slice none 0 0, .int .u64 0, .int .u64 0, .int .u64 0, .slice none 0 0, .slice none 0 0]
      have al3 : ¬ g1 = x2.heap.size := Nat.ne_of_lt hH2.2.1.lt
      have aw3 : w.heap.size ≤ x2.heap.size := hH2.1.size
      obtain ⟨x3, hx3⟩ : ∃ x, x2.alloc (.cells #[.int .i64 0, .int .u64 0, .bool false, .int .u64 0, .int .u64 0, .int .u64 0, .int .u64 0, .slice none 0 0, .int .u64 0, .int .u64 0, .int .u64 0, .slice none 0 0, .slice none 0 0] 31) = x := ⟨_, rfl⟩
      rw [hx3] at ka3 hb3 ⊢
      refine hK.out _ _ ⟨bnext hH2.1 hb3, hH2.2.1.below hb3, hH2.2.2.below hb3⟩ (fun hH3 => ?_)
      clear hK KK
      try simp only [zz1, zz2, zz3, Act.put, zz4, zz5, zz6]
      refine rdH [7] ?_
      refine c1H rfl fun KK hK => ?_
      rw [if_pos (by rfl)]
      refine wp_store_mid 31 _ _ rfl (x2.heap.size) 0 #[.int .i64 2, .int .u64 7, .bool true, .int .u64 0, .int .u64 0, .int .u64 0, .int .u64 0, .slice A2 0 c2, .int .u64 0, .int .u64 0, .int .u64 0, .slice B2 0 d2, .slice C2 0 e2] rfl rfl (Blk.there ka3 0 _ (Nat.le_refl 13)) (by kernel_rfl) (by kernel_rfl) ?_
      refine hK.out _ _ ⟨below_setCells aw3 _ _ hH3.1, hH3.2.1.farAll al3 _ _, hH3.2.2.anyw rfl rfl rfl⟩ (fun hH4 => ?_)
      clear hK KK
      try simp only [zz1, zz2, zz3, Act.put, zz4, zz5, zz6]
      refine tkH 8 rfl (yieldsIf_pure _ (.bool true) rfl (.inr rfl) rfl) hH4 ?_
      try simp only [zz1, zz2, zz3, Act.put, zz4, zz5, zz6]
      refine wpAnyH_done (by kernel_rfl) ?_ _
      go_wp2_with fail
      go_ret
      exact ⟨rfl, hH4.1⟩
    refine AllReadyH.cons rfl (fun KK hK => ?_) ?_
    · go_simp
      have hb5 := bal (Below.refl x1.heap.size x1) (.cells #[.int .i64 0, .int .u64 0, .bool false, .int .u64 0, .int .u64 0, .int .u64 0, .int .u64 0, .slice none 0 0, .int .u64 0, .int .u64 0, .int .u64 0, .slice none 0 0, .slice none 0 0] 31)
      have ka5 := Blk.new x1 31 #[.int .i64 0, .int .u64 0, .bool false, .int .u64 0, .int .u64 0, .int .u64 0, .int .u64 0, .slice none 0 0, .int .u64 0, .int .u64 0, .int .u64 0, .slice none 0 0, .slice none 0 0]
      have al5 : ¬ g1 = x1.heap.size := Nat.ne_of_lt hH1.2.1.lt
      have aw5 : w.heap.size ≤ x1.heap.size := hH1.1.size
      obtain ⟨x5, hx5⟩ : ∃ x, x1.alloc (.cells #[.int .i64 0, .int .u64 0, .bool false, .int .u64 0, .int .u64 0, .int .u64 0, .int .u64 0, .slice none 0 0, .int .u64 0, .int .u64 0, .int .u64 0, .slice none 0 0, .slice none 0 0] 31) = x := ⟨_, rfl⟩
      rw [hx5] at ka5 hb5 ⊢
      refine hK.out _ _ ⟨bnext hH1.1 hb5, hH1.2.1.below hb5, hH1.2.2.below hb5⟩ (fun hH5 => ?_)
      clear hK KK
      try simp only [zz1, zz2, zz3, Act.put, zz4, zz5, zz6]
      refine rdH [2] ?_
      refine c1H rfl fun KK hK => ?_
      go_simp
      refine (meets_any p1 (wfP_small 2 7 false 0 (by decide) (by decide)) (hlo 7 4) (wfF_hlo 7 4 (by decide) (by decide)) p2 3 false aw3 aw4 rfl _ _ hH5.2.2.at).mono ?_
      rintro e x6 ⟨V2, rfl, ⟨A2, c2, B2, d2, C2, e2, rfl, R2⟩, hb6⟩
      dsimp only [p2, zSend, zRec, List.length_nil] at R2 ⊢
      have ka6 := (ka5).below hb6
      refine hK.out _ _ ⟨bnext hH5.1 hb6, hH5.2.1.below hb6, hH5.2.2.below hb6⟩ (fun hH6 => ?_)
      clear hK KK
      try simp only [zz1, zz2, zz3, Act.put, zz4, zz5, zz6]
      refine tkH 3 rfl (yieldsIf_pure _ (.tuple #[.agg #[.int .i64 2, .int .u64 7, .bool true, .int .u64 0, .int .u64 0, .int .u64 0, .int .u64 0, .slice A2 0 c2, .int .u64 0, .int .u64 0, .int .u64 0, .slice B2 0 d2, .slice C2 0 e2], .bool true]) rfl (.inl rfl) rfl) hH6 ?_
      try simp only [zz1, zz2, zz3, Act.put, zz4, zz5, zz6]
      refine tkH 4 rfl (yieldsIf_cell (.agg #[.int .i64 2, .int .u64 7, .bool true, .int .u64 0, .int .u64 0, .int .u64 0, .int .u64 0, .slice A2 0 c2, .int .u64 0, .int .u64 0, .int .u64 0, .slice B2 0 d2, .slice C2 0 e2]) rfl (fun w h => by go_simp)) hH6 ?_
      try simp only [zz1, zz2, zz3, Act.put, zz4, zz5, zz6]
      refine tkH 5 rfl (yieldsIf_cell (.bool true) rfl (fun w h => by go_simp)) hH6 ?_
      try simp only [zz1, zz2, zz3, Act.put, zz4, zz5, zz6]
      refine rdH [7] ?_
      refine c1H rfl fun KK hK => ?_
      rw [if_pos (by rfl)]
      refine wp_store_mid 31 _ _ rfl (x1.heap.size) 0 #[.int .i64 2, .int .u64 7, .bool true, .int .u64 0, .int .u64 0, .int .u64 0, .int .u64 0, .slice A2 0 c2, .int .u64 0, .int .u64 0, .int .u64 0, .slice B2 0 d2, .slice C2 0 e2] rfl rfl (Blk.there ka6 0 _ (Nat.le_refl 13)) (by kernel_rfl) (by kernel_rfl) ?_
      refine hK.out _ _ ⟨below_setCells aw5 _ _ hH6.1, hH6.2.1.farAll al5 _ _, hH6.2.2.anyw rfl rfl rfl⟩ (fun hH7 => ?_)
      clear hK KK
      try simp only [zz1, zz2, zz3, Act.put, zz4, zz5, zz6]
      refine tkH 8 rfl (yieldsIf_pure _ (.bool true) rfl (.inr rfl) rfl) hH7 ?_
      try simp only [zz1, zz2, zz3, Act.put, zz4, zz5, zz6]
      refine wpAnyH_done (by kernel_rfl) ?_ _
      go_wp2_with fail
      go_ret
      exact ⟨rfl, hH7.1⟩
    exact AllReadyH.nil
  refine AllReadyH.cons rfl (fun KK hK => ?_) ?_
  · go_simp
    have hb8 := bal (Below.refl x0.heap.size x0) (.cells #[.int .i64 0, .int .u64 0, .bool false, .int .u64 0, .int .u64 0, .int .u64 0, .int .u64 0, .slice none 0 0, .int .u64 0, .int .u64 0, .int .u64 0, .slice none 0 0, .slice none 0 0] 31)
    have ka8 := Blk.new x0 31 #[.int .i64 0, .int .u64 0, .bool false, .int .u64 0, .int .u64 0, .int .u64 0, .int .u64 0, .slice none 0 0, .int .u64 0, .int .u64 0, .int .u64 0, .slice none 0 0, .slice none 0 0]
    have al8 : ¬ g1 = x0.heap.size := Nat.ne_of_lt hH.2.1.lt
    have aw8 : w.heap.size ≤ x0.heap.size := hH.1.size
    obtain ⟨x8, hx8⟩ : ∃ x, x0.alloc (.cells #[.int .i64 0, .int .u64 0, .bool false, .int .u64 0, .int .u64 0, .int .u64 0, .int .u64 0, .slice none 0 0, .int .u64 0, .int .u64 0, .int .u64 0, .slice none 0 0, .slice none 0 0] 31) = x := ⟨_, rfl⟩
    rw [hx8] at ka8 hb8 ⊢
    refine hK.out _ _ ⟨bnext hH.1 hb8, hH.2.1.below hb8, hH.2.2.below hb8⟩ (fun hH8 => ?_)
    clear hK KK
    try simp only [zz1, zz2, zz3, Act.put, zz4, zz5, zz6]
    refine rdH [1] ?_
    refine c1H rfl fun KK hK => ?_
    go_simp
    refine (hello_any 7 4 _).mono ?_
    rintro e x9 ⟨rfl, hb9⟩
    have ka9 := (ka8).below hb9
    refine hK.out _ _ ⟨bnext hH8.1 hb9, hH8.2.1.below hb9, hH8.2.2.below hb9⟩ (fun hH9 => ?_)
    clear hK KK
    try simp only [zz1, zz2, zz3, Act.put, zz4, zz5, zz6]
    refine rdH [2] ?_
    refine c1H rfl fun KK hK => ?_
    go_simp
    refine (meets_any p1 (wfP_small 2 7 false 0 (by decide) (by decide)) (hlo 7 4) (wfF_hlo 7 4 (by decide) (by decide)) p2 3 false aw3 aw4 rfl _ _ hH9.2.2.at).mono ?_
    rintro e x10 ⟨V2, rfl, ⟨A2, c2, B2, d2, C2, e2, rfl, R2⟩, hb10⟩
    dsimp only [p2, zSend, zRec, List.length_nil] at R2 ⊢
    have ka10 := (ka9).below hb10
    refine hK.out _ _ ⟨bnext hH9.1 hb10, hH9.2.1.below hb10, hH9.2.2.below hb10⟩ (fun hH10 => ?_)
    clear hK KK
    try simp only [zz1, zz2, zz3, Act.put, zz4, zz5, zz6]
    refine tkH 3 rfl (yieldsIf_pure _ (.tuple #[.agg #[.int .i64 2, .int .u64 7, .bool true, .int .u64 0, .int .u64 0, .int .u64 0, .int .u64 0, .slice A2 0 c2, .int .u64 0, .int .u64 0, .int .u64 0, .slice B2 0 d2, .slice C2 0 e2], .bool true]) rfl (.inl rfl) rfl) hH10 ?_
    try simp only [zz1, zz2, zz3, Act.put, zz4, zz5, zz6]
    refine tkH 4 rfl (yieldsIf_cell (.agg #[.int .i64 2, .int .u64 7, .bool true, .int .u64 0, .int .u64 0, .int .u64 0, .int .u64 0, .slice A2 0 c2, .int .u64 0, .int .u64 0, .int .u64 0, .slice B2 0 d2, .slice C2 0 e2]) rfl (fun w h => by go_simp)) hH10 ?_
    try simp only [zz1, zz2, zz3, Act.put, zz4, zz5, zz6]
    refine tkH 5 rfl (yieldsIf_cell (.bool true) rfl (fun w h => by go_simp)) hH10 ?_
    try simp only [zz1, zz2, zz3, Act.put, zz4, zz5, zz6]
    refine rdH [7] ?_
    refine c1H rfl fun KK hK => ?_
    rw [if_pos (by rfl)]
    refine wp_store_mid 31 _ _ rfl (x0.heap.size) 0 #[.int .i64 2, .int .u64 7, .bool true, .int .u64 0, .int .u64 0, .int .u64 0, .int .u64 0, .slice A2 0 c2, .int .u64 0, .int .u64 0, .int .u64 0, .slice B2 0 d2, .slice C2 0 e2] rfl rfl (Blk.there ka10 0 _ (Nat.le_refl 13)) (by kernel_rfl) (by kernel_rfl) ?_
    refine hK.out _ _ ⟨below_setCells aw8 _ _ hH10.1, hH10.2.1.farAll al8 _ _, hH10.2.2.anyw rfl rfl rfl⟩ (fun hH11 => ?_)
    clear hK KK
    try simp only [zz1, zz2, zz3, Act.put, zz4, zz5, zz6]
    refine tkH 8 rfl (yieldsIf_pure _ (.bool true) rfl (.inr rfl) rfl) hH11 ?_
    try simp only [zz1, zz2, zz3, Act.put, zz4, zz5, zz6]
    refine wpAnyH_done (by kernel_rfl) ?_ _
    go_wp2_with fail
    go_ret
    exact ⟨rfl, hH11.1⟩
  exact AllReadyH.nil
end Go.Proofs.Ytfgkkflbpfocjaa

