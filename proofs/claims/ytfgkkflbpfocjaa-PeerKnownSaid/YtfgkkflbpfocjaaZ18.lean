/- The law PeerKnown. -/
import Derived.Test.YtfgkkflbpfocjaaZ17
import Derived.Test.YtfgkkflbpfocjaaZ12
namespace Go.Proofs.Ytfgkkflbpfocjaa
open Go.RowKit
set_option linter.unusedVariables false
set_option linter.unusedSimpArgs false

theorem run_ne_fr0 (x0 x1 x2 x3 x4 x5 x6 x7 x8 x9 x10 x11 x12 x13 x14 x15 x16 x17 : Int) (s : ByteArray) (w : World) : (binOp .neq 51 (.agg #[.int .i64 x0, .int .i64 x1, .int .i64 x2, .int .u64 x3, .int .u64 x4, .int .u64 x5, .int .u64 x6, .int .i64 x7, .int .u64 x8, .int .i64 x9, .int .i64 x10, .int .u64 x11, .int .i64 x12, .int .i64 x13, .int .i64 x14, .int .i64 x15, .int .i64 x16, .int .i64 x17, .string s]) (.agg #[.int .i64 x0, .int .i64 x1, .int .i64 x2, .int .u64 x3, .int .u64 x4, .int .u64 x5, .int .u64 x6, .int .i64 x7, .int .u64 x8, .int .i64 x9, .int .i64 x10, .int .u64 x11, .int .i64 x12, .int .i64 x13, .int .i64 x14, .int .i64 x15, .int .i64 x16, .int .i64 x17, .string s])).run Try.prog w = .ok (.bool false) w := by
  go_simp
theorem wpList_buildX {P : Program} {ops : Array Oper} {rest : List Oper} {op : Oper} {a : Act} {w : World} {Q : Exit → Act → World → Prop} (hw : Region.wanted op (yielded ops a.tmps) = true) (t : TypeId) (parts : Array (Nat × Operand)) (parts' : Array (Nat × Value)) (v : Value) (ho : op.op = .build t parts) (hp : (parts.map fun (i, x) => (i, a.eval x)) = parts')
    (hr : ∀ w, (Instr.build t parts').run P w = .ok v w) (h2 : wpList P ops Q rest (a.put op.dst v) w) : wpList P ops Q (op :: rest) a w :=
  BigFrame.wpList_want hw fun K hK => by
    unfold Oper.wp execOp
    simp only [ho, hp, Sem.run_bind, Sem.run_pure, Result.andThen_ok, hr]
    exact hK _ _ h2
def FHp : Array (Nat × Value) := #[(0, .int .i64 1), (1, .int .i64 1), (2, .int .i64 2), (3, .int .u64 4), (4, .int .u64 8)]
theorem bld_fh (w : World) : (Instr.build 51 FHp).run Try.prog w = .ok (.agg #[.int .i64 1, .int .i64 1, .int .i64 2, .int .u64 4, .int .u64 8, .int .u64 0, .int .u64 0, .int .i64 0, .int .u64 0, .int .i64 0, .int .i64 0, .int .u64 0, .int .i64 0, .int .i64 0, .int .i64 0, .int .i64 0, .int .i64 0, .int .i64 0, .string ⟨#[]⟩]) w := by kernel_rfl
theorem kHello (V : Value) (w : World) (h : PrAt w V p3) : Calls Try.prog 25 #[V, .int .i64 1, .int .u64 4] w (fun e w' => e = .returned (.tuple #[.agg #[.int .i64 1, .int .i64 1, .int .i64 2, .int .u64 4, .int .u64 8, .int .u64 0, .int .u64 0, .int .i64 0, .int .u64 0, .int .i64 0, .int .i64 0, .int .u64 0, .int .i64 0, .int .i64 0, .int .i64 0, .int .i64 0, .int .i64 0, .int .i64 0, .string ⟨#[]⟩], .int .i64 0]) ∧ Below w.heap.size w w') := by
  have := Hello_any p3 (wfP_small 2 8 true 0 (by decide) (by decide)) 1 4 V w h
  rw [kn7, kn8] at this
  exact this
theorem kGrant (V : Value) (w : World) (h : PrAt w V p0) : Calls Try.prog 32 #[V, .int .i64 1, .int .u64 4] w (fun e w' => e = .returned (.tuple #[.agg #[.int .i64 0, .int .i64 0, .int .i64 0, .int .u64 0, .int .u64 0, .int .u64 0, .int .u64 0, .int .i64 0, .int .u64 0, .int .i64 0, .int .i64 0, .int .u64 0, .int .i64 0, .int .i64 0, .int .i64 0, .int .i64 0, .int .i64 0, .int .i64 0, .string ⟨#[]⟩], .int .i64 13]) ∧ Below w.heap.size w w') := by
  have := Grant_any p0 (wfP_small 2 0 false 0 (by decide) (by decide)) 1 4 V w h
  rw [kn10, kn9] at this
  exact this
theorem kn_rg {w : World} {g : Nat} {t : TypeId} (h : Blk w g t #[.int .u64 0, .int .u64 30]) : RgsAt w (.slice (some ⟨g, 0, none⟩) 1 1) [⟨0, 30⟩] := by
  refine ⟨_, _, rfl, Nat.le_refl _, by unfold maxLen; omega, by decide, fun _ => ⟨g, 0, rfl, h.lt, fun j u hj => ?_⟩⟩
  rw [Nat.zero_add, h.cell]
  have e : fl Rg.cells [⟨0, 30⟩] = [.int .u64 0, .int .u64 30] := by kernel_rfl
  rw [e] at hj
  rw [List.getElem?_toArray, hj]
theorem kRestart (V : Value) (w : World) (h : PrAt w V pq) : Calls Try.prog 27 #[V] w (fun e w' => ∃ A6 c6 B6 d6 C6 e6, e = .returned (.tuple #[.agg #[.int .i64 2, .int .u64 8, .bool false, .int .u64 70, .int .u64 0, .int .u64 0, .int .u64 0, .slice A6 0 c6, .int .u64 0, .int .u64 0, .int .u64 0, .slice B6 0 d6, .slice C6 0 e6], .int .i64 0]) ∧ PrB w.heap.size w' (.agg #[.int .i64 2, .int .u64 8, .bool false, .int .u64 70, .int .u64 0, .int .u64 0, .int .u64 0, .slice A6 0 c6, .int .u64 0, .int .u64 0, .int .u64 0, .slice B6 0 d6, .slice C6 0 e6]) pr ∧ Below w.heap.size w w') := by
  have := Restart_any pq wfP_pq V w h
  rw [kn13] at this
  refine this.mono ?_
  rintro e w1 ⟨V', rfl, ⟨A6, c6, B6, d6, C6, e6, rfl, R⟩, hb⟩
  exact ⟨A6, c6, B6, d6, C6, e6, rfl, ⟨A6, c6, B6, d6, C6, e6, rfl, R⟩, hb⟩

set_option maxRecDepth 100000 in
set_option maxHeartbeats 4000000 in
theorem PeerKnown_t (w : World) : Calls Try.prog 9 #[] w (RetB true w) := by
  go_enter Try.func9, Try.ntmps9
  go_upto_region 2 with fail
  refine (hello_any 7 0 w).mono ?_
  rintro e w1 ⟨rfl, hb1⟩
  go_upto_region 2 with fail
  refine (meets_any p0 (wfP_small 2 0 false 0 (by decide) (by decide)) (hlo 7 0) (wfF_hlo 7 0 (by decide) (by decide)) p1 2 true aw1 aw2 rfl _ _ (zPr_at' 0 w1 2 0 false 0).at).mono ?_
  rintro e w2 ⟨V1, rfl, ⟨A1, c1, B1, d1, C1, e1, rfl, R1⟩, hb2⟩
  dsimp only [p1, zSend, zRec, List.length_nil] at R1 ⊢
  have hB2 := hb1.trans (hb2.mono hb1.size)
  clear hb1 hb2
  go_upto_region 2 with (first | (refine wpList_alloc_z (by rfl) 31 (by rfl) _ rfl #[.int .i64 0, .int .u64 0, .bool false, .int .u64 0, .int .u64 0, .int .u64 0, .int .u64 0, .slice none 0 0, .int .u64 0, .int .u64 0, .int .u64 0, .slice none 0 0, .slice none 0 0] (fun w => by kernel_rfl) ?_) | (refine wpList_store_new (by rfl) 31 _ _ (by rfl) w2 #[.int .i64 0, .int .u64 0, .bool false, .int .u64 0, .int .u64 0, .int .u64 0, .int .u64 0, .slice none 0 0, .int .u64 0, .int .u64 0, .int .u64 0, .slice none 0 0, .slice none 0 0] #[.int .i64 2, .int .u64 7, .bool false, .int .u64 0, .int .u64 0, .int .u64 0, .int .u64 0, .slice A1 0 c1, .int .u64 0, .int .u64 0, .int .u64 0, .slice B1 0 d1, .slice C1 0 e1] rfl (by rfl) (by rfl) (by kernel_rfl) rfl (by kernel_rfl) ?_))
  have k1 := Blk.new w2 31 #[.int .i64 2, .int .u64 7, .bool false, .int .u64 0, .int .u64 0, .int .u64 0, .int .u64 0, .slice A1 0 c1, .int .u64 0, .int .u64 0, .int .u64 0, .slice B1 0 d1, .slice C1 0 e1]
  have hB := bal hB2 (.cells #[.int .i64 2, .int .u64 7, .bool false, .int .u64 0, .int .u64 0, .int .u64 0, .int .u64 0, .slice A1 0 c1, .int .u64 0, .int .u64 0, .int .u64 0, .slice B1 0 d1, .slice C1 0 e1] 31)
  have r1 : PrB 0 (w2.alloc (.cells #[.int .i64 2, .int .u64 7, .bool false, .int .u64 0, .int .u64 0, .int .u64 0, .int .u64 0, .slice A1 0 c1, .int .u64 0, .int .u64 0, .int .u64 0, .slice B1 0 d1, .slice C1 0 e1] 31)) (.agg #[.int .i64 2, .int .u64 7, .bool false, .int .u64 0, .int .u64 0, .int .u64 0, .int .u64 0, .slice A1 0 c1, .int .u64 0, .int .u64 0, .int .u64 0, .slice B1 0 d1, .slice C1 0 e1]) p1 := PrB.anyw (w := w2) (p := p1) (PrB.low (B := w1.heap.size) ⟨A1, c1, B1, d1, C1, e1, rfl, R1⟩ (Nat.zero_le _)) rfl rfl rfl
  have aw : w.heap.size ≤ w2.heap.size := hB2.size
  obtain ⟨g1, hg1⟩ : ∃ g1, w2.heap.size = g1 := ⟨_, rfl⟩
  rw [hg1] at k1 aw ⊢
  generalize w2.alloc (.cells #[.int .i64 2, .int .u64 7, .bool false, .int .u64 0, .int .u64 0, .int .u64 0, .int .u64 0, .slice A1 0 c1, .int .u64 0, .int .u64 0, .int .u64 0, .slice B1 0 d1, .slice C1 0 e1] 31) = W at k1 hB r1 ⊢
  clear hg1 hB2 R1

  go_cut [3] (fun s wx => s = .bool true ∧ ∃ A2 c2 B2 d2 C2 e2, Blk wx g1 31 #[.int .i64 2, .int .u64 7, .bool true, .int .u64 0, .int .u64 0, .int .u64 0, .int .u64 0, .slice A2 0 c2, .int .u64 0, .int .u64 0, .int .u64 0, .slice B2 0 d2, .slice C2 0 e2] ∧ PrB 0 wx (.agg #[.int .i64 2, .int .u64 7, .bool true, .int .u64 0, .int .u64 0, .int .u64 0, .int .u64 0, .slice A2 0 c2, .int .u64 0, .int .u64 0, .int .u64 0, .slice B2 0 d2, .slice C2 0 e2]) p2 ∧ Below w.heap.size w wx)
  case first =>
    have k2 : Blk W.drew g1 31 #[.int .i64 2, .int .u64 7, .bool false, .int .u64 0, .int .u64 0, .int .u64 0, .int .u64 0, .slice A1 0 c1, .int .u64 0, .int .u64 0, .int .u64 0, .slice B1 0 d1, .slice C1 0 e1] := k1
    have r2 : PrB 0 W.drew (.agg #[.int .i64 2, .int .u64 7, .bool false, .int .u64 0, .int .u64 0, .int .u64 0, .int .u64 0, .slice A1 0 c1, .int .u64 0, .int .u64 0, .int .u64 0, .slice B1 0 d1, .slice C1 0 e1]) p1 := r1.anyw rfl rfl rfl
    have hB3 : Below w.heap.size w W.drew := hB.drew
    refine wp_region_held_drew (S := fun wx => Below w.heap.size w wx) (by kernel_rfl) hB3 (fun hH => ?_)
    generalize W.drew = x0 at k2 hB3 r2 hH ⊢
    clear k1 r1 hB
    refine wpAnyH_ready (rs := [0, 1]) (by kernel_rfl) (by simp) ?_
    refine AllReadyH.cons rfl (fun KK hK => ?_) ?_
    · rw [if_pos (by rfl)]
      refine wp_load_row 31 _ rfl g1 rfl 31 #[.int .i64 2, .int .u64 7, .bool false, .int .u64 0, .int .u64 0, .int .u64 0, .int .u64 0, .slice A1 0 c1, .int .u64 0, .int .u64 0, .int .u64 0, .slice B1 0 d1, .slice C1 0 e1] (0, 0) _ k2 Try.underlying31 (by rfl) (by kernel_rfl) ?_
      refine hK.out _ _ hH (fun hH1 => ?_)
      clear hK KK
      try simp only [List.getElem_toArray, List.getElem_cons_succ, List.getElem_cons_zero, Act.put, List.setIfInBounds_toArray, List.set_cons_zero, List.set_cons_succ]
      refine wpAnyH_ready (rs := [1]) (by kernel_rfl) (by simp) ?_
      refine AllReadyH.cons rfl (fun KK hK => ?_) AllReadyH.nil
      go_simp
      refine (hello_any 7 4 _).mono ?_
      rintro e x2 ⟨rfl, hb2⟩
      have ka2 := (k2).below hb2
      have ra2 := (r2).below hb2
      refine hK.out _ _ (bnext hH1 hb2) (fun hH2 => ?_)
      clear hK KK
      try simp only [List.getElem_toArray, List.getElem_cons_succ, List.getElem_cons_zero, Act.put, List.setIfInBounds_toArray, List.set_cons_zero, List.set_cons_succ]
      refine wpAnyH_ready (rs := [2]) (by kernel_rfl) (by simp) ?_
      refine AllReadyH.cons rfl (fun KK hK => ?_) AllReadyH.nil
      go_simp
      refine (meets_any p1 (wfP_small 2 7 false 0 (by decide) (by decide)) (hlo 7 4) (wfF_hlo 7 4 (by decide) (by decide)) p2 3 false aw3 aw4 rfl _ _ (ra2).at).mono ?_
      rintro e x3 ⟨V2, rfl, ⟨A2, c2, B2, d2, C2, e2, rfl, R2⟩, hb3⟩
      dsimp only [p2, zSend, zRec, List.length_nil] at R2 ⊢
      have ka3 := (ka2).below hb3
      have ra3 : PrB 0 x3 (.agg #[.int .i64 2, .int .u64 7, .bool true, .int .u64 0, .int .u64 0, .int .u64 0, .int .u64 0, .slice A2 0 c2, .int .u64 0, .int .u64 0, .int .u64 0, .slice B2 0 d2, .slice C2 0 e2]) p2 := PrB.low (B := x2.heap.size) ⟨A2, c2, B2, d2, C2, e2, rfl, R2⟩ (Nat.zero_le _)
      refine hK.out _ _ (bnext hH2 hb3) (fun hH3 => ?_)
      clear hK KK
      try simp only [List.getElem_toArray, List.getElem_cons_succ, List.getElem_cons_zero, Act.put, List.setIfInBounds_toArray, List.set_cons_zero, List.set_cons_succ]
      refine wpAnyH_take (i := 3) rfl (by kernel_rfl) (by kernel_rfl) (by kernel_rfl) (fun _ _ _ h => h) (yieldsIf_pure _ (.tuple #[.agg #[.int .i64 2, .int .u64 7, .bool true, .int .u64 0, .int .u64 0, .int .u64 0, .int .u64 0, .slice A2 0 c2, .int .u64 0, .int .u64 0, .int .u64 0, .slice B2 0 d2, .slice C2 0 e2], .bool true]) rfl (.inl rfl) rfl) hH3 ?_
      try simp only [List.getElem_toArray, List.getElem_cons_succ, List.getElem_cons_zero, Act.put, List.setIfInBounds_toArray, List.set_cons_zero, List.set_cons_succ]
      refine wpAnyH_take (i := 4) rfl (by kernel_rfl) (by kernel_rfl) (by kernel_rfl) (fun _ _ _ h => h) (yieldsIf_cell (.agg #[.int .i64 2, .int .u64 7, .bool true, .int .u64 0, .int .u64 0, .int .u64 0, .int .u64 0, .slice A2 0 c2, .int .u64 0, .int .u64 0, .int .u64 0, .slice B2 0 d2, .slice C2 0 e2]) rfl (fun w h => by go_simp)) hH3 ?_
      try simp only [List.getElem_toArray, List.getElem_cons_succ, List.getElem_cons_zero, Act.put, List.setIfInBounds_toArray, List.set_cons_zero, List.set_cons_succ]
      refine wpAnyH_take (i := 5) rfl (by kernel_rfl) (by kernel_rfl) (by kernel_rfl) (fun _ _ _ h => h) (yieldsIf_cell (.bool true) rfl (fun w h => by go_simp)) hH3 ?_
      try simp only [List.getElem_toArray, List.getElem_cons_succ, List.getElem_cons_zero, Act.put, List.setIfInBounds_toArray, List.set_cons_zero, List.set_cons_succ]
      refine wpAnyH_ready (rs := [6]) (by kernel_rfl) (by simp) ?_
      refine AllReadyH.cons rfl (fun KK hK => ?_) AllReadyH.nil
      rw [if_pos (by rfl)]
      refine wp_store_mid 31 _ _ rfl g1 0 #[.int .i64 2, .int .u64 7, .bool true, .int .u64 0, .int .u64 0, .int .u64 0, .int .u64 0, .slice A2 0 c2, .int .u64 0, .int .u64 0, .int .u64 0, .slice B2 0 d2, .slice C2 0 e2] rfl rfl (Blk.there ka3 0 _ (Nat.le_refl 13)) (by kernel_rfl) (by kernel_rfl) ?_
      have ka4 : Blk (x3.setCells g1 0 (Array.toList #[.int .i64 2, .int .u64 7, .bool true, .int .u64 0, .int .u64 0, .int .u64 0, .int .u64 0, .slice A2 0 c2, .int .u64 0, .int .u64 0, .int .u64 0, .slice B2 0 d2, .slice C2 0 e2])) g1 31 #[.int .i64 2, .int .u64 7, .bool true, .int .u64 0, .int .u64 0, .int .u64 0, .int .u64 0, .slice A2 0 c2, .int .u64 0, .int .u64 0, .int .u64 0, .slice B2 0 d2, .slice C2 0 e2] := (ka3).setAll rfl
      have ra4 : PrB 0 (x3.setCells g1 0 (Array.toList #[.int .i64 2, .int .u64 7, .bool true, .int .u64 0, .int .u64 0, .int .u64 0, .int .u64 0, .slice A2 0 c2, .int .u64 0, .int .u64 0, .int .u64 0, .slice B2 0 d2, .slice C2 0 e2])) (.agg #[.int .i64 2, .int .u64 7, .bool true, .int .u64 0, .int .u64 0, .int .u64 0, .int .u64 0, .slice A2 0 c2, .int .u64 0, .int .u64 0, .int .u64 0, .slice B2 0 d2, .slice C2 0 e2]) p2 := (ra3).anyw rfl rfl rfl
      refine hK.out _ _ (below_setCells aw _ _ hH3) (fun hH4 => ?_)
      clear hK KK
      try simp only [List.getElem_toArray, List.getElem_cons_succ, List.getElem_cons_zero, Act.put, List.setIfInBounds_toArray, List.set_cons_zero, List.set_cons_succ]
      refine wpAnyH_take (i := 7) rfl (by kernel_rfl) (by kernel_rfl) (by kernel_rfl) (fun _ _ _ h => h) (yieldsIf_pure _ (.bool true) rfl (.inr rfl) rfl) hH4 ?_
      try simp only [List.getElem_toArray, List.getElem_cons_succ, List.getElem_cons_zero, Act.put, List.setIfInBounds_toArray, List.set_cons_zero, List.set_cons_succ]
      refine wpAnyH_done (by kernel_rfl) ?_ _
      go_wp2_with fail
      go_meet
      exact ⟨rfl, _, _, _, _, _, _, ka4, ra4, hH4⟩
    refine AllReadyH.cons rfl (fun KK hK => ?_) ?_
    · go_simp
      refine (hello_any 7 4 _).mono ?_
      rintro e x5 ⟨rfl, hb5⟩
      have ka5 := (k2).below hb5
      have ra5 := (r2).below hb5
      refine hK.out _ _ (bnext hH hb5) (fun hH5 => ?_)
      clear hK KK
      try simp only [List.getElem_toArray, List.getElem_cons_succ, List.getElem_cons_zero, Act.put, List.setIfInBounds_toArray, List.set_cons_zero, List.set_cons_succ]
      refine wpAnyH_ready (rs := [0]) (by kernel_rfl) (by simp) ?_
      refine AllReadyH.cons rfl (fun KK hK => ?_) AllReadyH.nil
      rw [if_pos (by rfl)]
      refine wp_load_row 31 _ rfl g1 rfl 31 #[.int .i64 2, .int .u64 7, .bool false, .int .u64 0, .int .u64 0, .int .u64 0, .int .u64 0, .slice A1 0 c1, .int .u64 0, .int .u64 0, .int .u64 0, .slice B1 0 d1, .slice C1 0 e1] (0, 0) _ ka5 Try.underlying31 (by rfl) (by kernel_rfl) ?_
      refine hK.out _ _ hH5 (fun hH6 => ?_)
      clear hK KK
      try simp only [List.getElem_toArray, List.getElem_cons_succ, List.getElem_cons_zero, Act.put, List.setIfInBounds_toArray, List.set_cons_zero, List.set_cons_succ]
      refine wpAnyH_ready (rs := [2]) (by kernel_rfl) (by simp) ?_
      refine AllReadyH.cons rfl (fun KK hK => ?_) AllReadyH.nil
      go_simp
      refine (meets_any p1 (wfP_small 2 7 false 0 (by decide) (by decide)) (hlo 7 4) (wfF_hlo 7 4 (by decide) (by decide)) p2 3 false aw3 aw4 rfl _ _ (ra5).at).mono ?_
      rintro e x7 ⟨V2, rfl, ⟨A2, c2, B2, d2, C2, e2, rfl, R2⟩, hb7⟩
      dsimp only [p2, zSend, zRec, List.length_nil] at R2 ⊢
      have ka7 := (ka5).below hb7
      have ra7 : PrB 0 x7 (.agg #[.int .i64 2, .int .u64 7, .bool true, .int .u64 0, .int .u64 0, .int .u64 0, .int .u64 0, .slice A2 0 c2, .int .u64 0, .int .u64 0, .int .u64 0, .slice B2 0 d2, .slice C2 0 e2]) p2 := PrB.low (B := x5.heap.size) ⟨A2, c2, B2, d2, C2, e2, rfl, R2⟩ (Nat.zero_le _)
      refine hK.out _ _ (bnext hH6 hb7) (fun hH7 => ?_)
      clear hK KK
      try simp only [List.getElem_toArray, List.getElem_cons_succ, List.getElem_cons_zero, Act.put, List.setIfInBounds_toArray, List.set_cons_zero, List.set_cons_succ]
      refine wpAnyH_take (i := 3) rfl (by kernel_rfl) (by kernel_rfl) (by kernel_rfl) (fun _ _ _ h => h) (yieldsIf_pure _ (.tuple #[.agg #[.int .i64 2, .int .u64 7, .bool true, .int .u64 0, .int .u64 0, .int .u64 0, .int .u64 0, .slice A2 0 c2, .int .u64 0, .int .u64 0, .int .u64 0, .slice B2 0 d2, .slice C2 0 e2], .bool true]) rfl (.inl rfl) rfl) hH7 ?_
      try simp only [List.getElem_toArray, List.getElem_cons_succ, List.getElem_cons_zero, Act.put, List.setIfInBounds_toArray, List.set_cons_zero, List.set_cons_succ]
      refine wpAnyH_take (i := 4) rfl (by kernel_rfl) (by kernel_rfl) (by kernel_rfl) (fun _ _ _ h => h) (yieldsIf_cell (.agg #[.int .i64 2, .int .u64 7, .bool true, .int .u64 0, .int .u64 0, .int .u64 0, .int .u64 0, .slice A2 0 c2, .int .u64 0, .int .u64 0, .int .u64 0, .slice B2 0 d2, .slice C2 0 e2]) rfl (fun w h => by go_simp)) hH7 ?_
      try simp only [List.getElem_toArray, List.getElem_cons_succ, List.getElem_cons_zero, Act.put, List.setIfInBounds_toArray, List.set_cons_zero, List.set_cons_succ]
      refine wpAnyH_take (i := 5) rfl (by kernel_rfl) (by kernel_rfl) (by kernel_rfl) (fun _ _ _ h => h) (yieldsIf_cell (.bool true) rfl (fun w h => by go_simp)) hH7 ?_
      try simp only [List.getElem_toArray, List.getElem_cons_succ, List.getElem_cons_zero, Act.put, List.setIfInBounds_toArray, List.set_cons_zero, List.set_cons_succ]
      refine wpAnyH_ready (rs := [6]) (by kernel_rfl) (by simp) ?_
      refine AllReadyH.cons rfl (fun KK hK => ?_) AllReadyH.nil
      rw [if_pos (by rfl)]
      refine wp_store_mid 31 _ _ rfl g1 0 #[.int .i64 2, .int .u64 7, .bool true, .int .u64 0, .int .u64 0, .int .u64 0, .int .u64 0, .slice A2 0 c2, .int .u64 0, .int .u64 0, .int .u64 0, .slice B2 0 d2, .slice C2 0 e2] rfl rfl (Blk.there ka7 0 _ (Nat.le_refl 13)) (by kernel_rfl) (by kernel_rfl) ?_
      have ka8 : Blk (x7.setCells g1 0 (Array.toList #[.int .i64 2, .int .u64 7, .bool true, .int .u64 0, .int .u64 0, .int .u64 0, .int .u64 0, .slice A2 0 c2, .int .u64 0, .int .u64 0, .int .u64 0, .slice B2 0 d2, .slice C2 0 e2])) g1 31 #[.int .i64 2, .int .u64 7, .bool true, .int .u64 0, .int .u64 0, .int .u64 0, .int .u64 0, .slice A2 0 c2, .int .u64 0, .int .u64 0, .int .u64 0, .slice B2 0 d2, .slice C2 0 e2] := (ka7).setAll rfl
      have ra8 : PrB 0 (x7.setCells g1 0 (Array.toList #[.int .i64 2, .int .u64 7, .bool true, .int .u64 0, .int .u64 0, .int .u64 0, .int .u64 0, .slice A2 0 c2, .int .u64 0, .int .u64 0, .int .u64 0, .slice B2 0 d2, .slice C2 0 e2])) (.agg #[.int .i64 2, .int .u64 7, .bool true, .int .u64 0, .int .u64 0, .int .u64 0, .int .u64 0, .slice A2 0 c2, .int .u64 0, .int .u64 0, .int .u64 0, .slice B2 0 d2, .slice C2 0 e2]) p2 := (ra7).anyw rfl rfl rfl
      refine hK.out _ _ (below_setCells aw _ _ hH7) (fun hH8 => ?_)
      clear hK KK
      try simp only [List.getElem_toArray, List.getElem_cons_succ, List.getElem_cons_zero, Act.put, List.setIfInBounds_toArray, List.set_cons_zero, List.set_cons_succ]
      refine wpAnyH_take (i := 7) rfl (by kernel_rfl) (by kernel_rfl) (by kernel_rfl) (fun _ _ _ h => h) (yieldsIf_pure _ (.bool true) rfl (.inr rfl) rfl) hH8 ?_
      try simp only [List.getElem_toArray, List.getElem_cons_succ, List.getElem_cons_zero, Act.put, List.setIfInBounds_toArray, List.set_cons_zero, List.set_cons_succ]
      refine wpAnyH_done (by kernel_rfl) ?_ _
      go_wp2_with fail
      go_meet
      exact ⟨rfl, _, _, _, _, _, _, ka8, ra8, hH8⟩
    exact AllReadyH.nil
  case rest =>
  clear k1 r1 hB
  obtain ⟨rfl, A2, c2, B2, d2, C2, e2, k1, r1, hB⟩ := hcut
  generalize wc = y2 at k1 r1 hB ⊢
  go_upto_region 3 with fail
  go_cut [4] (fun s wx => s = .bool true ∧ ∃ A3 c3 B3 d3 C3 e3, Blk wx g1 31 #[.int .i64 2, .int .u64 7, .bool true, .int .u64 0, .int .u64 0, .int .u64 0, .int .u64 0, .slice A3 0 c3, .int .u64 0, .int .u64 0, .int .u64 0, .slice B3 0 d3, .slice C3 0 e3] ∧ PrB 0 wx (.agg #[.int .i64 2, .int .u64 7, .bool true, .int .u64 0, .int .u64 0, .int .u64 0, .int .u64 0, .slice A3 0 c3, .int .u64 0, .int .u64 0, .int .u64 0, .slice B3 0 d3, .slice C3 0 e3]) p2 ∧ Below w.heap.size w wx)
  case first =>
    have k2 : Blk y2.drew g1 31 #[.int .i64 2, .int .u64 7, .bool true, .int .u64 0, .int .u64 0, .int .u64 0, .int .u64 0, .slice A2 0 c2, .int .u64 0, .int .u64 0, .int .u64 0, .slice B2 0 d2, .slice C2 0 e2] := k1
    have r2 : PrB 0 y2.drew (.agg #[.int .i64 2, .int .u64 7, .bool true, .int .u64 0, .int .u64 0, .int .u64 0, .int .u64 0, .slice A2 0 c2, .int .u64 0, .int .u64 0, .int .u64 0, .slice B2 0 d2, .slice C2 0 e2]) p2 := r1.anyw rfl rfl rfl
    have hB3 : Below w.heap.size w y2.drew := hB.drew
    refine wp_region_held_drew (S := fun wx => Below w.heap.size w wx) (by kernel_rfl) hB3 (fun hH => ?_)
    generalize y2.drew = x0 at k2 hB3 r2 hH ⊢
    clear k1 r1 hB
    refine wpAnyH_ready (rs := [0, 1]) (by kernel_rfl) (by simp) ?_
    refine AllReadyH.cons rfl (fun KK hK => ?_) ?_
    · rw [if_pos (by rfl)]
      refine wp_load_row 31 _ rfl g1 rfl 31 #[.int .i64 2, .int .u64 7, .bool true, .int .u64 0, .int .u64 0, .int .u64 0, .int .u64 0, .slice A2 0 c2, .int .u64 0, .int .u64 0, .int .u64 0, .slice B2 0 d2, .slice C2 0 e2] (0, 0) _ k2 Try.underlying31 (by rfl) (by kernel_rfl) ?_
      refine hK.out _ _ hH (fun hH1 => ?_)
      clear hK KK
      try simp only [List.getElem_toArray, List.getElem_cons_succ, List.getElem_cons_zero, Act.put, List.setIfInBounds_toArray, List.set_cons_zero, List.set_cons_succ]
      refine wpAnyH_ready (rs := [1]) (by kernel_rfl) (by simp) ?_
      refine AllReadyH.cons rfl (fun KK hK => ?_) AllReadyH.nil
      go_simp
      refine (grant_any 6 4 _).mono ?_
      rintro e x2 ⟨rfl, hb2⟩
      have ka2 := (k2).below hb2
      have ra2 := (r2).below hb2
      refine hK.out _ _ (bnext hH1 hb2) (fun hH2 => ?_)
      clear hK KK
      try simp only [List.getElem_toArray, List.getElem_cons_succ, List.getElem_cons_zero, Act.put, List.setIfInBounds_toArray, List.set_cons_zero, List.set_cons_succ]
      refine wpAnyH_ready (rs := [2]) (by kernel_rfl) (by simp) ?_
      refine AllReadyH.cons rfl (fun KK hK => ?_) AllReadyH.nil
      go_simp
      refine (meets_any p2 (wfP_small 2 7 true 0 (by decide) (by decide)) (grt 6 4) (wfF_grt 6 4 (by decide) (by decide)) p2 1 false kn1 kn2 rfl _ _ (ra2).at).mono ?_
      rintro e x3 ⟨V3, rfl, ⟨A3, c3, B3, d3, C3, e3, rfl, R3⟩, hb3⟩
      dsimp only [p2, zSend, zRec, List.length_nil] at R3 ⊢
      have ka3 := (ka2).below hb3
      have ra3 : PrB 0 x3 (.agg #[.int .i64 2, .int .u64 7, .bool true, .int .u64 0, .int .u64 0, .int .u64 0, .int .u64 0, .slice A3 0 c3, .int .u64 0, .int .u64 0, .int .u64 0, .slice B3 0 d3, .slice C3 0 e3]) p2 := PrB.low (B := x2.heap.size) ⟨A3, c3, B3, d3, C3, e3, rfl, R3⟩ (Nat.zero_le _)
      refine hK.out _ _ (bnext hH2 hb3) (fun hH3 => ?_)
      clear hK KK
      try simp only [List.getElem_toArray, List.getElem_cons_succ, List.getElem_cons_zero, Act.put, List.setIfInBounds_toArray, List.set_cons_zero, List.set_cons_succ]
      refine wpAnyH_take (i := 3) rfl (by kernel_rfl) (by kernel_rfl) (by kernel_rfl) (fun _ _ _ h => h) (yieldsIf_pure _ (.tuple #[.agg #[.int .i64 2, .int .u64 7, .bool true, .int .u64 0, .int .u64 0, .int .u64 0, .int .u64 0, .slice A3 0 c3, .int .u64 0, .int .u64 0, .int .u64 0, .slice B3 0 d3, .slice C3 0 e3], .bool true]) rfl (.inl rfl) rfl) hH3 ?_
      try simp only [List.getElem_toArray, List.getElem_cons_succ, List.getElem_cons_zero, Act.put, List.setIfInBounds_toArray, List.set_cons_zero, List.set_cons_succ]
      refine wpAnyH_take (i := 4) rfl (by kernel_rfl) (by kernel_rfl) (by kernel_rfl) (fun _ _ _ h => h) (yieldsIf_cell (.agg #[.int .i64 2, .int .u64 7, .bool true, .int .u64 0, .int .u64 0, .int .u64 0, .int .u64 0, .slice A3 0 c3, .int .u64 0, .int .u64 0, .int .u64 0, .slice B3 0 d3, .slice C3 0 e3]) rfl (fun w h => by go_simp)) hH3 ?_
      try simp only [List.getElem_toArray, List.getElem_cons_succ, List.getElem_cons_zero, Act.put, List.setIfInBounds_toArray, List.set_cons_zero, List.set_cons_succ]
      refine wpAnyH_take (i := 5) rfl (by kernel_rfl) (by kernel_rfl) (by kernel_rfl) (fun _ _ _ h => h) (yieldsIf_cell (.bool true) rfl (fun w h => by go_simp)) hH3 ?_
      try simp only [List.getElem_toArray, List.getElem_cons_succ, List.getElem_cons_zero, Act.put, List.setIfInBounds_toArray, List.set_cons_zero, List.set_cons_succ]
      refine wpAnyH_ready (rs := [6]) (by kernel_rfl) (by simp) ?_
      refine AllReadyH.cons rfl (fun KK hK => ?_) AllReadyH.nil
      rw [if_pos (by rfl)]
      refine wp_store_mid 31 _ _ rfl g1 0 #[.int .i64 2, .int .u64 7, .bool true, .int .u64 0, .int .u64 0, .int .u64 0, .int .u64 0, .slice A3 0 c3, .int .u64 0, .int .u64 0, .int .u64 0, .slice B3 0 d3, .slice C3 0 e3] rfl rfl (Blk.there ka3 0 _ (Nat.le_refl 13)) (by kernel_rfl) (by kernel_rfl) ?_
      have ka4 : Blk (x3.setCells g1 0 (Array.toList #[.int .i64 2, .int .u64 7, .bool true, .int .u64 0, .int .u64 0, .int .u64 0, .int .u64 0, .slice A3 0 c3, .int .u64 0, .int .u64 0, .int .u64 0, .slice B3 0 d3, .slice C3 0 e3])) g1 31 #[.int .i64 2, .int .u64 7, .bool true, .int .u64 0, .int .u64 0, .int .u64 0, .int .u64 0, .slice A3 0 c3, .int .u64 0, .int .u64 0, .int .u64 0, .slice B3 0 d3, .slice C3 0 e3] := (ka3).setAll rfl
      have ra4 : PrB 0 (x3.setCells g1 0 (Array.toList #[.int .i64 2, .int .u64 7, .bool true, .int .u64 0, .int .u64 0, .int .u64 0, .int .u64 0, .slice A3 0 c3, .int .u64 0, .int .u64 0, .int .u64 0, .slice B3 0 d3, .slice C3 0 e3])) (.agg #[.int .i64 2, .int .u64 7, .bool true, .int .u64 0, .int .u64 0, .int .u64 0, .int .u64 0, .slice A3 0 c3, .int .u64 0, .int .u64 0, .int .u64 0, .slice B3 0 d3, .slice C3 0 e3]) p2 := (ra3).anyw rfl rfl rfl
      refine hK.out _ _ (below_setCells aw _ _ hH3) (fun hH4 => ?_)
      clear hK KK
      try simp only [List.getElem_toArray, List.getElem_cons_succ, List.getElem_cons_zero, Act.put, List.setIfInBounds_toArray, List.set_cons_zero, List.set_cons_succ]
      refine wpAnyH_take (i := 7) rfl (by kernel_rfl) (by kernel_rfl) (by kernel_rfl) (fun _ _ _ h => h) (yieldsIf_pure _ (.bool true) rfl (.inr rfl) rfl) hH4 ?_
      try simp only [List.getElem_toArray, List.getElem_cons_succ, List.getElem_cons_zero, Act.put, List.setIfInBounds_toArray, List.set_cons_zero, List.set_cons_succ]
      refine wpAnyH_done (by kernel_rfl) ?_ _
      go_wp2_with fail
      go_meet
      exact ⟨rfl, _, _, _, _, _, _, ka4, ra4, hH4⟩
    refine AllReadyH.cons rfl (fun KK hK => ?_) ?_
    · go_simp
      refine (grant_any 6 4 _).mono ?_
      rintro e x5 ⟨rfl, hb5⟩
      have ka5 := (k2).below hb5
      have ra5 := (r2).below hb5
      refine hK.out _ _ (bnext hH hb5) (fun hH5 => ?_)
      clear hK KK
      try simp only [List.getElem_toArray, List.getElem_cons_succ, List.getElem_cons_zero, Act.put, List.setIfInBounds_toArray, List.set_cons_zero, List.set_cons_succ]
      refine wpAnyH_ready (rs := [0]) (by kernel_rfl) (by simp) ?_
      refine AllReadyH.cons rfl (fun KK hK => ?_) AllReadyH.nil
      rw [if_pos (by rfl)]
      refine wp_load_row 31 _ rfl g1 rfl 31 #[.int .i64 2, .int .u64 7, .bool true, .int .u64 0, .int .u64 0, .int .u64 0, .int .u64 0, .slice A2 0 c2, .int .u64 0, .int .u64 0, .int .u64 0, .slice B2 0 d2, .slice C2 0 e2] (0, 0) _ ka5 Try.underlying31 (by rfl) (by kernel_rfl) ?_
      refine hK.out _ _ hH5 (fun hH6 => ?_)
      clear hK KK
      try simp only [List.getElem_toArray, List.getElem_cons_succ, List.getElem_cons_zero, Act.put, List.setIfInBounds_toArray, List.set_cons_zero, List.set_cons_succ]
      refine wpAnyH_ready (rs := [2]) (by kernel_rfl) (by simp) ?_
      refine AllReadyH.cons rfl (fun KK hK => ?_) AllReadyH.nil
      go_simp
      refine (meets_any p2 (wfP_small 2 7 true 0 (by decide) (by decide)) (grt 6 4) (wfF_grt 6 4 (by decide) (by decide)) p2 1 false kn1 kn2 rfl _ _ (ra5).at).mono ?_
      rintro e x7 ⟨V3, rfl, ⟨A3, c3, B3, d3, C3, e3, rfl, R3⟩, hb7⟩
      dsimp only [p2, zSend, zRec, List.length_nil] at R3 ⊢
      have ka7 := (ka5).below hb7
      have ra7 : PrB 0 x7 (.agg #[.int .i64 2, .int .u64 7, .bool true, .int .u64 0, .int .u64 0, .int .u64 0, .int .u64 0, .slice A3 0 c3, .int .u64 0, .int .u64 0, .int .u64 0, .slice B3 0 d3, .slice C3 0 e3]) p2 := PrB.low (B := x5.heap.size) ⟨A3, c3, B3, d3, C3, e3, rfl, R3⟩ (Nat.zero_le _)
      refine hK.out _ _ (bnext hH6 hb7) (fun hH7 => ?_)
      clear hK KK
      try simp only [List.getElem_toArray, List.getElem_cons_succ, List.getElem_cons_zero, Act.put, List.setIfInBounds_toArray, List.set_cons_zero, List.set_cons_succ]
      refine wpAnyH_take (i := 3) rfl (by kernel_rfl) (by kernel_rfl) (by kernel_rfl) (fun _ _ _ h => h) (yieldsIf_pure _ (.tuple #[.agg #[.int .i64 2, .int .u64 7, .bool true, .int .u64 0, .int .u64 0, .int .u64 0, .int .u64 0, .slice A3 0 c3, .int .u64 0, .int .u64 0, .int .u64 0, .slice B3 0 d3, .slice C3 0 e3], .bool true]) rfl (.inl rfl) rfl) hH7 ?_
      try simp only [List.getElem_toArray, List.getElem_cons_succ, List.getElem_cons_zero, Act.put, List.setIfInBounds_toArray, List.set_cons_zero, List.set_cons_succ]
      refine wpAnyH_take (i := 4) rfl (by kernel_rfl) (by kernel_rfl) (by kernel_rfl) (fun _ _ _ h => h) (yieldsIf_cell (.agg #[.int .i64 2, .int .u64 7, .bool true, .int .u64 0, .int .u64 0, .int .u64 0, .int .u64 0, .slice A3 0 c3, .int .u64 0, .int .u64 0, .int .u64 0, .slice B3 0 d3, .slice C3 0 e3]) rfl (fun w h => by go_simp)) hH7 ?_
      try simp only [List.getElem_toArray, List.getElem_cons_succ, List.getElem_cons_zero, Act.put, List.setIfInBounds_toArray, List.set_cons_zero, List.set_cons_succ]
      refine wpAnyH_take (i := 5) rfl (by kernel_rfl) (by kernel_rfl) (by kernel_rfl) (fun _ _ _ h => h) (yieldsIf_cell (.bool true) rfl (fun w h => by go_simp)) hH7 ?_
      try simp only [List.getElem_toArray, List.getElem_cons_succ, List.getElem_cons_zero, Act.put, List.setIfInBounds_toArray, List.set_cons_zero, List.set_cons_succ]
      refine wpAnyH_ready (rs := [6]) (by kernel_rfl) (by simp) ?_
      refine AllReadyH.cons rfl (fun KK hK => ?_) AllReadyH.nil
      rw [if_pos (by rfl)]
      refine wp_store_mid 31 _ _ rfl g1 0 #[.int .i64 2, .int .u64 7, .bool true, .int .u64 0, .int .u64 0, .int .u64 0, .int .u64 0, .slice A3 0 c3, .int .u64 0, .int .u64 0, .int .u64 0, .slice B3 0 d3, .slice C3 0 e3] rfl rfl (Blk.there ka7 0 _ (Nat.le_refl 13)) (by kernel_rfl) (by kernel_rfl) ?_
      have ka8 : Blk (x7.setCells g1 0 (Array.toList #[.int .i64 2, .int .u64 7, .bool true, .int .u64 0, .int .u64 0, .int .u64 0, .int .u64 0, .slice A3 0 c3, .int .u64 0, .int .u64 0, .int .u64 0, .slice B3 0 d3, .slice C3 0 e3])) g1 31 #[.int .i64 2, .int .u64 7, .bool true, .int .u64 0, .int .u64 0, .int .u64 0, .int .u64 0, .slice A3 0 c3, .int .u64 0, .int .u64 0, .int .u64 0, .slice B3 0 d3, .slice C3 0 e3] := (ka7).setAll rfl
      have ra8 : PrB 0 (x7.setCells g1 0 (Array.toList #[.int .i64 2, .int .u64 7, .bool true, .int .u64 0, .int .u64 0, .int .u64 0, .int .u64 0, .slice A3 0 c3, .int .u64 0, .int .u64 0, .int .u64 0, .slice B3 0 d3, .slice C3 0 e3])) (.agg #[.int .i64 2, .int .u64 7, .bool true, .int .u64 0, .int .u64 0, .int .u64 0, .int .u64 0, .slice A3 0 c3, .int .u64 0, .int .u64 0, .int .u64 0, .slice B3 0 d3, .slice C3 0 e3]) p2 := (ra7).anyw rfl rfl rfl
      refine hK.out _ _ (below_setCells aw _ _ hH7) (fun hH8 => ?_)
      clear hK KK
      try simp only [List.getElem_toArray, List.getElem_cons_succ, List.getElem_cons_zero, Act.put, List.setIfInBounds_toArray, List.set_cons_zero, List.set_cons_succ]
      refine wpAnyH_take (i := 7) rfl (by kernel_rfl) (by kernel_rfl) (by kernel_rfl) (fun _ _ _ h => h) (yieldsIf_pure _ (.bool true) rfl (.inr rfl) rfl) hH8 ?_
      try simp only [List.getElem_toArray, List.getElem_cons_succ, List.getElem_cons_zero, Act.put, List.setIfInBounds_toArray, List.set_cons_zero, List.set_cons_succ]
      refine wpAnyH_done (by kernel_rfl) ?_ _
      go_wp2_with fail
      go_meet
      exact ⟨rfl, _, _, _, _, _, _, ka8, ra8, hH8⟩
    exact AllReadyH.nil
  case rest =>
  clear k1 r1 hB
  obtain ⟨rfl, A3, c3, B3, d3, C3, e3, k1, r1, hB⟩ := hcut
  generalize wc = y3 at k1 r1 hB ⊢
  go_upto_region 4 with fail
  go_cut [5] (fun s wx => s = .bool true ∧ ∃ A4 c4 B4 d4 C4 e4, Blk wx g1 31 #[.int .i64 2, .int .u64 8, .bool true, .int .u64 0, .int .u64 0, .int .u64 0, .int .u64 0, .slice A4 0 c4, .int .u64 0, .int .u64 0, .int .u64 0, .slice B4 0 d4, .slice C4 0 e4] ∧ PrB 0 wx (.agg #[.int .i64 2, .int .u64 8, .bool true, .int .u64 0, .int .u64 0, .int .u64 0, .int .u64 0, .slice A4 0 c4, .int .u64 0, .int .u64 0, .int .u64 0, .slice B4 0 d4, .slice C4 0 e4]) p3 ∧ Below w.heap.size w wx)
  case first =>
    have k2 : Blk y3.drew g1 31 #[.int .i64 2, .int .u64 7, .bool true, .int .u64 0, .int .u64 0, .int .u64 0, .int .u64 0, .slice A3 0 c3, .int .u64 0, .int .u64 0, .int .u64 0, .slice B3 0 d3, .slice C3 0 e3] := k1
    have r2 : PrB 0 y3.drew (.agg #[.int .i64 2, .int .u64 7, .bool true, .int .u64 0, .int .u64 0, .int .u64 0, .int .u64 0, .slice A3 0 c3, .int .u64 0, .int .u64 0, .int .u64 0, .slice B3 0 d3, .slice C3 0 e3]) p2 := r1.anyw rfl rfl rfl
    have hB3 : Below w.heap.size w y3.drew := hB.drew
    refine wp_region_held_drew (S := fun wx => Below w.heap.size w wx) (by kernel_rfl) hB3 (fun hH => ?_)
    generalize y3.drew = x0 at k2 hB3 r2 hH ⊢
    clear k1 r1 hB
    refine wpAnyH_ready (rs := [0, 1]) (by kernel_rfl) (by simp) ?_
    refine AllReadyH.cons rfl (fun KK hK => ?_) ?_
    · rw [if_pos (by rfl)]
      refine wp_load_row 31 _ rfl g1 rfl 31 #[.int .i64 2, .int .u64 7, .bool true, .int .u64 0, .int .u64 0, .int .u64 0, .int .u64 0, .slice A3 0 c3, .int .u64 0, .int .u64 0, .int .u64 0, .slice B3 0 d3, .slice C3 0 e3] (0, 0) _ k2 Try.underlying31 (by rfl) (by kernel_rfl) ?_
      refine hK.out _ _ hH (fun hH1 => ?_)
      clear hK KK
      try simp only [List.getElem_toArray, List.getElem_cons_succ, List.getElem_cons_zero, Act.put, List.setIfInBounds_toArray, List.set_cons_zero, List.set_cons_succ]
      refine wpAnyH_ready (rs := [1]) (by kernel_rfl) (by simp) ?_
      refine AllReadyH.cons rfl (fun KK hK => ?_) AllReadyH.nil
      go_simp
      refine (hello_any 8 4 _).mono ?_
      rintro e x2 ⟨rfl, hb2⟩
      have ka2 := (k2).below hb2
      have ra2 := (r2).below hb2
      refine hK.out _ _ (bnext hH1 hb2) (fun hH2 => ?_)
      clear hK KK
      try simp only [List.getElem_toArray, List.getElem_cons_succ, List.getElem_cons_zero, Act.put, List.setIfInBounds_toArray, List.set_cons_zero, List.set_cons_succ]
      refine wpAnyH_ready (rs := [2]) (by kernel_rfl) (by simp) ?_
      refine AllReadyH.cons rfl (fun KK hK => ?_) AllReadyH.nil
      go_simp
      refine (meets_any p2 (wfP_small 2 7 true 0 (by decide) (by decide)) (hlo 8 4) (wfF_hlo 8 4 (by decide) (by decide)) p3 3 true kn3 kn4 rfl _ _ (ra2).at).mono ?_
      rintro e x3 ⟨V4, rfl, ⟨A4, c4, B4, d4, C4, e4, rfl, R4⟩, hb3⟩
      dsimp only [p3, zSend, zRec, List.length_nil] at R4 ⊢
      have ka3 := (ka2).below hb3
      have ra3 : PrB 0 x3 (.agg #[.int .i64 2, .int .u64 8, .bool true, .int .u64 0, .int .u64 0, .int .u64 0, .int .u64 0, .slice A4 0 c4, .int .u64 0, .int .u64 0, .int .u64 0, .slice B4 0 d4, .slice C4 0 e4]) p3 := PrB.low (B := x2.heap.size) ⟨A4, c4, B4, d4, C4, e4, rfl, R4⟩ (Nat.zero_le _)
      refine hK.out _ _ (bnext hH2 hb3) (fun hH3 => ?_)
      clear hK KK
      try simp only [List.getElem_toArray, List.getElem_cons_succ, List.getElem_cons_zero, Act.put, List.setIfInBounds_toArray, List.set_cons_zero, List.set_cons_succ]
      refine wpAnyH_take (i := 3) rfl (by kernel_rfl) (by kernel_rfl) (by kernel_rfl) (fun _ _ _ h => h) (yieldsIf_pure _ (.tuple #[.agg #[.int .i64 2, .int .u64 8, .bool true, .int .u64 0, .int .u64 0, .int .u64 0, .int .u64 0, .slice A4 0 c4, .int .u64 0, .int .u64 0, .int .u64 0, .slice B4 0 d4, .slice C4 0 e4], .bool true]) rfl (.inl rfl) rfl) hH3 ?_
      try simp only [List.getElem_toArray, List.getElem_cons_succ, List.getElem_cons_zero, Act.put, List.setIfInBounds_toArray, List.set_cons_zero, List.set_cons_succ]
      refine wpAnyH_take (i := 4) rfl (by kernel_rfl) (by kernel_rfl) (by kernel_rfl) (fun _ _ _ h => h) (yieldsIf_cell (.agg #[.int .i64 2, .int .u64 8, .bool true, .int .u64 0, .int .u64 0, .int .u64 0, .int .u64 0, .slice A4 0 c4, .int .u64 0, .int .u64 0, .int .u64 0, .slice B4 0 d4, .slice C4 0 e4]) rfl (fun w h => by go_simp)) hH3 ?_
      try simp only [List.getElem_toArray, List.getElem_cons_succ, List.getElem_cons_zero, Act.put, List.setIfInBounds_toArray, List.set_cons_zero, List.set_cons_succ]
      refine wpAnyH_take (i := 5) rfl (by kernel_rfl) (by kernel_rfl) (by kernel_rfl) (fun _ _ _ h => h) (yieldsIf_cell (.bool true) rfl (fun w h => by go_simp)) hH3 ?_
      try simp only [List.getElem_toArray, List.getElem_cons_succ, List.getElem_cons_zero, Act.put, List.setIfInBounds_toArray, List.set_cons_zero, List.set_cons_succ]
      refine wpAnyH_ready (rs := [6]) (by kernel_rfl) (by simp) ?_
      refine AllReadyH.cons rfl (fun KK hK => ?_) AllReadyH.nil
      rw [if_pos (by rfl)]
      refine wp_store_mid 31 _ _ rfl g1 0 #[.int .i64 2, .int .u64 8, .bool true, .int .u64 0, .int .u64 0, .int .u64 0, .int .u64 0, .slice A4 0 c4, .int .u64 0, .int .u64 0, .int .u64 0, .slice B4 0 d4, .slice C4 0 e4] rfl rfl (Blk.there ka3 0 _ (Nat.le_refl 13)) (by kernel_rfl) (by kernel_rfl) ?_
      have ka4 : Blk (x3.setCells g1 0 (Array.toList #[.int .i64 2, .int .u64 8, .bool true, .int .u64 0, .int .u64 0, .int .u64 0, .int .u64 0, .slice A4 0 c4, .int .u64 0, .int .u64 0, .int .u64 0, .slice B4 0 d4, .slice C4 0 e4])) g1 31 #[.int .i64 2, .int .u64 8, .bool true, .int .u64 0, .int .u64 0, .int .u64 0, .int .u64 0, .slice A4 0 c4, .int .u64 0, .int .u64 0, .int .u64 0, .slice B4 0 d4, .slice C4 0 e4] := (ka3).setAll rfl
      have ra4 : PrB 0 (x3.setCells g1 0 (Array.toList #[.int .i64 2, .int .u64 8, .bool true, .int .u64 0, .int .u64 0, .int .u64 0, .int .u64 0, .slice A4 0 c4, .int .u64 0, .int .u64 0, .int .u64 0, .slice B4 0 d4, .slice C4 0 e4])) (.agg #[.int .i64 2, .int .u64 8, .bool true, .int .u64 0, .int .u64 0, .int .u64 0, .int .u64 0, .slice A4 0 c4, .int .u64 0, .int .u64 0, .int .u64 0, .slice B4 0 d4, .slice C4 0 e4]) p3 := (ra3).anyw rfl rfl rfl
      refine hK.out _ _ (below_setCells aw _ _ hH3) (fun hH4 => ?_)
      clear hK KK
      try simp only [List.getElem_toArray, List.getElem_cons_succ, List.getElem_cons_zero, Act.put, List.setIfInBounds_toArray, List.set_cons_zero, List.set_cons_succ]
      refine wpAnyH_take (i := 7) rfl (by kernel_rfl) (by kernel_rfl) (by kernel_rfl) (fun _ _ _ h => h) (yieldsIf_pure _ (.bool true) rfl (.inr rfl) rfl) hH4 ?_
      try simp only [List.getElem_toArray, List.getElem_cons_succ, List.getElem_cons_zero, Act.put, List.setIfInBounds_toArray, List.set_cons_zero, List.set_cons_succ]
      refine wpAnyH_done (by kernel_rfl) ?_ _
      go_wp2_with fail
      go_meet
      exact ⟨rfl, _, _, _, _, _, _, ka4, ra4, hH4⟩
    refine AllReadyH.cons rfl (fun KK hK => ?_) ?_
    · go_simp
      refine (hello_any 8 4 _).mono ?_
      rintro e x5 ⟨rfl, hb5⟩
      have ka5 := (k2).below hb5
      have ra5 := (r2).below hb5
      refine hK.out _ _ (bnext hH hb5) (fun hH5 => ?_)
      clear hK KK
      try simp only [List.getElem_toArray, List.getElem_cons_succ, List.getElem_cons_zero, Act.put, List.setIfInBounds_toArray, List.set_cons_zero, List.set_cons_succ]
      refine wpAnyH_ready (rs := [0]) (by kernel_rfl) (by simp) ?_
      refine AllReadyH.cons rfl (fun KK hK => ?_) AllReadyH.nil
      rw [if_pos (by rfl)]
      refine wp_load_row 31 _ rfl g1 rfl 31 #[.int .i64 2, .int .u64 7, .bool true, .int .u64 0, .int .u64 0, .int .u64 0, .int .u64 0, .slice A3 0 c3, .int .u64 0, .int .u64 0, .int .u64 0, .slice B3 0 d3, .slice C3 0 e3] (0, 0) _ ka5 Try.underlying31 (by rfl) (by kernel_rfl) ?_
      refine hK.out _ _ hH5 (fun hH6 => ?_)
      clear hK KK
      try simp only [List.getElem_toArray, List.getElem_cons_succ, List.getElem_cons_zero, Act.put, List.setIfInBounds_toArray, List.set_cons_zero, List.set_cons_succ]
      refine wpAnyH_ready (rs := [2]) (by kernel_rfl) (by simp) ?_
      refine AllReadyH.cons rfl (fun KK hK => ?_) AllReadyH.nil
      go_simp
      refine (meets_any p2 (wfP_small 2 7 true 0 (by decide) (by decide)) (hlo 8 4) (wfF_hlo 8 4 (by decide) (by decide)) p3 3 true kn3 kn4 rfl _ _ (ra5).at).mono ?_
      rintro e x7 ⟨V4, rfl, ⟨A4, c4, B4, d4, C4, e4, rfl, R4⟩, hb7⟩
      dsimp only [p3, zSend, zRec, List.length_nil] at R4 ⊢
      have ka7 := (ka5).below hb7
      have ra7 : PrB 0 x7 (.agg #[.int .i64 2, .int .u64 8, .bool true, .int .u64 0, .int .u64 0, .int .u64 0, .int .u64 0, .slice A4 0 c4, .int .u64 0, .int .u64 0, .int .u64 0, .slice B4 0 d4, .slice C4 0 e4]) p3 := PrB.low (B := x5.heap.size) ⟨A4, c4, B4, d4, C4, e4, rfl, R4⟩ (Nat.zero_le _)
      refine hK.out _ _ (bnext hH6 hb7) (fun hH7 => ?_)
      clear hK KK
      try simp only [List.getElem_toArray, List.getElem_cons_succ, List.getElem_cons_zero, Act.put, List.setIfInBounds_toArray, List.set_cons_zero, List.set_cons_succ]
      refine wpAnyH_take (i := 3) rfl (by kernel_rfl) (by kernel_rfl) (by kernel_rfl) (fun _ _ _ h => h) (yieldsIf_pure _ (.tuple #[.agg #[.int .i64 2, .int .u64 8, .bool true, .int .u64 0, .int .u64 0, .int .u64 0, .int .u64 0, .slice A4 0 c4, .int .u64 0, .int .u64 0, .int .u64 0, .slice B4 0 d4, .slice C4 0 e4], .bool true]) rfl (.inl rfl) rfl) hH7 ?_
      try simp only [List.getElem_toArray, List.getElem_cons_succ, List.getElem_cons_zero, Act.put, List.setIfInBounds_toArray, List.set_cons_zero, List.set_cons_succ]
      refine wpAnyH_take (i := 4) rfl (by kernel_rfl) (by kernel_rfl) (by kernel_rfl) (fun _ _ _ h => h) (yieldsIf_cell (.agg #[.int .i64 2, .int .u64 8, .bool true, .int .u64 0, .int .u64 0, .int .u64 0, .int .u64 0, .slice A4 0 c4, .int .u64 0, .int .u64 0, .int .u64 0, .slice B4 0 d4, .slice C4 0 e4]) rfl (fun w h => by go_simp)) hH7 ?_
      try simp only [List.getElem_toArray, List.getElem_cons_succ, List.getElem_cons_zero, Act.put, List.setIfInBounds_toArray, List.set_cons_zero, List.set_cons_succ]
      refine wpAnyH_take (i := 5) rfl (by kernel_rfl) (by kernel_rfl) (by kernel_rfl) (fun _ _ _ h => h) (yieldsIf_cell (.bool true) rfl (fun w h => by go_simp)) hH7 ?_
      try simp only [List.getElem_toArray, List.getElem_cons_succ, List.getElem_cons_zero, Act.put, List.setIfInBounds_toArray, List.set_cons_zero, List.set_cons_succ]
      refine wpAnyH_ready (rs := [6]) (by kernel_rfl) (by simp) ?_
      refine AllReadyH.cons rfl (fun KK hK => ?_) AllReadyH.nil
      rw [if_pos (by rfl)]
      refine wp_store_mid 31 _ _ rfl g1 0 #[.int .i64 2, .int .u64 8, .bool true, .int .u64 0, .int .u64 0, .int .u64 0, .int .u64 0, .slice A4 0 c4, .int .u64 0, .int .u64 0, .int .u64 0, .slice B4 0 d4, .slice C4 0 e4] rfl rfl (Blk.there ka7 0 _ (Nat.le_refl 13)) (by kernel_rfl) (by kernel_rfl) ?_
      have ka8 : Blk (x7.setCells g1 0 (Array.toList #[.int .i64 2, .int .u64 8, .bool true, .int .u64 0, .int .u64 0, .int .u64 0, .int .u64 0, .slice A4 0 c4, .int .u64 0, .int .u64 0, .int .u64 0, .slice B4 0 d4, .slice C4 0 e4])) g1 31 #[.int .i64 2, .int .u64 8, .bool true, .int .u64 0, .int .u64 0, .int .u64 0, .int .u64 0, .slice A4 0 c4, .int .u64 0, .int .u64 0, .int .u64 0, .slice B4 0 d4, .slice C4 0 e4] := (ka7).setAll rfl
      have ra8 : PrB 0 (x7.setCells g1 0 (Array.toList #[.int .i64 2, .int .u64 8, .bool true, .int .u64 0, .int .u64 0, .int .u64 0, .int .u64 0, .slice A4 0 c4, .int .u64 0, .int .u64 0, .int .u64 0, .slice B4 0 d4, .slice C4 0 e4])) (.agg #[.int .i64 2, .int .u64 8, .bool true, .int .u64 0, .int .u64 0, .int .u64 0, .int .u64 0, .slice A4 0 c4, .int .u64 0, .int .u64 0, .int .u64 0, .slice B4 0 d4, .slice C4 0 e4]) p3 := (ra7).anyw rfl rfl rfl
      refine hK.out _ _ (below_setCells aw _ _ hH7) (fun hH8 => ?_)
      clear hK KK
      try simp only [List.getElem_toArray, List.getElem_cons_succ, List.getElem_cons_zero, Act.put, List.setIfInBounds_toArray, List.set_cons_zero, List.set_cons_succ]
      refine wpAnyH_take (i := 7) rfl (by kernel_rfl) (by kernel_rfl) (by kernel_rfl) (fun _ _ _ h => h) (yieldsIf_pure _ (.bool true) rfl (.inr rfl) rfl) hH8 ?_
      try simp only [List.getElem_toArray, List.getElem_cons_succ, List.getElem_cons_zero, Act.put, List.setIfInBounds_toArray, List.set_cons_zero, List.set_cons_succ]
      refine wpAnyH_done (by kernel_rfl) ?_ _
      go_wp2_with fail
      go_meet
      exact ⟨rfl, _, _, _, _, _, _, ka8, ra8, hH8⟩
    exact AllReadyH.nil
  case rest =>
  clear k1 r1 hB
  obtain ⟨rfl, A4, c4, B4, d4, C4, e4, k1, r1, hB⟩ := hcut
  generalize wc = y4 at k1 r1 hB ⊢
  go_upto_region 5 with fail
  go_cut [6] (fun s wx => s = .bool true ∧ ∃ A5 c5 B5 d5 C5 e5, Blk wx g1 31 #[.int .i64 2, .int .u64 8, .bool true, .int .u64 0, .int .u64 0, .int .u64 0, .int .u64 0, .slice A5 0 c5, .int .u64 0, .int .u64 0, .int .u64 0, .slice B5 0 d5, .slice C5 0 e5] ∧ PrB 0 wx (.agg #[.int .i64 2, .int .u64 8, .bool true, .int .u64 0, .int .u64 0, .int .u64 0, .int .u64 0, .slice A5 0 c5, .int .u64 0, .int .u64 0, .int .u64 0, .slice B5 0 d5, .slice C5 0 e5]) p3 ∧ Below w.heap.size w wx)
  case first =>
    have k2 : Blk y4.drew g1 31 #[.int .i64 2, .int .u64 8, .bool true, .int .u64 0, .int .u64 0, .int .u64 0, .int .u64 0, .slice A4 0 c4, .int .u64 0, .int .u64 0, .int .u64 0, .slice B4 0 d4, .slice C4 0 e4] := k1
    have r2 : PrB 0 y4.drew (.agg #[.int .i64 2, .int .u64 8, .bool true, .int .u64 0, .int .u64 0, .int .u64 0, .int .u64 0, .slice A4 0 c4, .int .u64 0, .int .u64 0, .int .u64 0, .slice B4 0 d4, .slice C4 0 e4]) p3 := r1.anyw rfl rfl rfl
    have hB3 : Below w.heap.size w y4.drew := hB.drew
    refine wp_region_held_drew (S := fun wx => Below w.heap.size w wx) (by kernel_rfl) hB3 (fun hH => ?_)
    generalize y4.drew = x0 at k2 hB3 r2 hH ⊢
    clear k1 r1 hB
    refine wpAnyH_ready (rs := [0, 1]) (by kernel_rfl) (by simp) ?_
    refine AllReadyH.cons rfl (fun KK hK => ?_) ?_
    · rw [if_pos (by rfl)]
      refine wp_load_row 31 _ rfl g1 rfl 31 #[.int .i64 2, .int .u64 8, .bool true, .int .u64 0, .int .u64 0, .int .u64 0, .int .u64 0, .slice A4 0 c4, .int .u64 0, .int .u64 0, .int .u64 0, .slice B4 0 d4, .slice C4 0 e4] (0, 0) _ k2 Try.underlying31 (by rfl) (by kernel_rfl) ?_
      refine hK.out _ _ hH (fun hH1 => ?_)
      clear hK KK
      try simp only [List.getElem_toArray, List.getElem_cons_succ, List.getElem_cons_zero, Act.put, List.setIfInBounds_toArray, List.set_cons_zero, List.set_cons_succ]
      refine wpAnyH_ready (rs := [1]) (by kernel_rfl) (by simp) ?_
      refine AllReadyH.cons rfl (fun KK hK => ?_) AllReadyH.nil
      go_simp
      refine (hello_any 8 3 _).mono ?_
      rintro e x2 ⟨rfl, hb2⟩
      have ka2 := (k2).below hb2
      have ra2 := (r2).below hb2
      refine hK.out _ _ (bnext hH1 hb2) (fun hH2 => ?_)
      clear hK KK
      try simp only [List.getElem_toArray, List.getElem_cons_succ, List.getElem_cons_zero, Act.put, List.setIfInBounds_toArray, List.set_cons_zero, List.set_cons_succ]
      refine wpAnyH_ready (rs := [2]) (by kernel_rfl) (by simp) ?_
      refine AllReadyH.cons rfl (fun KK hK => ?_) AllReadyH.nil
      go_simp
      refine (meets_any p3 (wfP_small 2 8 true 0 (by decide) (by decide)) (hlo 8 3) (wfF_hlo 8 3 (by decide) (by decide)) p3 2 true kn5 kn6 rfl _ _ (ra2).at).mono ?_
      rintro e x3 ⟨V5, rfl, ⟨A5, c5, B5, d5, C5, e5, rfl, R5⟩, hb3⟩
      dsimp only [p3, zSend, zRec, List.length_nil] at R5 ⊢
      have ka3 := (ka2).below hb3
      have ra3 : PrB 0 x3 (.agg #[.int .i64 2, .int .u64 8, .bool true, .int .u64 0, .int .u64 0, .int .u64 0, .int .u64 0, .slice A5 0 c5, .int .u64 0, .int .u64 0, .int .u64 0, .slice B5 0 d5, .slice C5 0 e5]) p3 := PrB.low (B := x2.heap.size) ⟨A5, c5, B5, d5, C5, e5, rfl, R5⟩ (Nat.zero_le _)
      refine hK.out _ _ (bnext hH2 hb3) (fun hH3 => ?_)
      clear hK KK
      try simp only [List.getElem_toArray, List.getElem_cons_succ, List.getElem_cons_zero, Act.put, List.setIfInBounds_toArray, List.set_cons_zero, List.set_cons_succ]
      refine wpAnyH_take (i := 3) rfl (by kernel_rfl) (by kernel_rfl) (by kernel_rfl) (fun _ _ _ h => h) (yieldsIf_pure _ (.tuple #[.agg #[.int .i64 2, .int .u64 8, .bool true, .int .u64 0, .int .u64 0, .int .u64 0, .int .u64 0, .slice A5 0 c5, .int .u64 0, .int .u64 0, .int .u64 0, .slice B5 0 d5, .slice C5 0 e5], .bool true]) rfl (.inl rfl) rfl) hH3 ?_
      try simp only [List.getElem_toArray, List.getElem_cons_succ, List.getElem_cons_zero, Act.put, List.setIfInBounds_toArray, List.set_cons_zero, List.set_cons_succ]
      refine wpAnyH_take (i := 4) rfl (by kernel_rfl) (by kernel_rfl) (by kernel_rfl) (fun _ _ _ h => h) (yieldsIf_cell (.agg #[.int .i64 2, .int .u64 8, .bool true, .int .u64 0, .int .u64 0, .int .u64 0, .int .u64 0, .slice A5 0 c5, .int .u64 0, .int .u64 0, .int .u64 0, .slice B5 0 d5, .slice C5 0 e5]) rfl (fun w h => by go_simp)) hH3 ?_
      try simp only [List.getElem_toArray, List.getElem_cons_succ, List.getElem_cons_zero, Act.put, List.setIfInBounds_toArray, List.set_cons_zero, List.set_cons_succ]
      refine wpAnyH_take (i := 5) rfl (by kernel_rfl) (by kernel_rfl) (by kernel_rfl) (fun _ _ _ h => h) (yieldsIf_cell (.bool true) rfl (fun w h => by go_simp)) hH3 ?_
      try simp only [List.getElem_toArray, List.getElem_cons_succ, List.getElem_cons_zero, Act.put, List.setIfInBounds_toArray, List.set_cons_zero, List.set_cons_succ]
      refine wpAnyH_ready (rs := [6]) (by kernel_rfl) (by simp) ?_
      refine AllReadyH.cons rfl (fun KK hK => ?_) AllReadyH.nil
      rw [if_pos (by rfl)]
      refine wp_store_mid 31 _ _ rfl g1 0 #[.int .i64 2, .int .u64 8, .bool true, .int .u64 0, .int .u64 0, .int .u64 0, .int .u64 0, .slice A5 0 c5, .int .u64 0, .int .u64 0, .int .u64 0, .slice B5 0 d5, .slice C5 0 e5] rfl rfl (Blk.there ka3 0 _ (Nat.le_refl 13)) (by kernel_rfl) (by kernel_rfl) ?_
      have ka4 : Blk (x3.setCells g1 0 (Array.toList #[.int .i64 2, .int .u64 8, .bool true, .int .u64 0, .int .u64 0, .int .u64 0, .int .u64 0, .slice A5 0 c5, .int .u64 0, .int .u64 0, .int .u64 0, .slice B5 0 d5, .slice C5 0 e5])) g1 31 #[.int .i64 2, .int .u64 8, .bool true, .int .u64 0, .int .u64 0, .int .u64 0, .int .u64 0, .slice A5 0 c5, .int .u64 0, .int .u64 0, .int .u64 0, .slice B5 0 d5, .slice C5 0 e5] := (ka3).setAll rfl
      have ra4 : PrB 0 (x3.setCells g1 0 (Array.toList #[.int .i64 2, .int .u64 8, .bool true, .int .u64 0, .int .u64 0, .int .u64 0, .int .u64 0, .slice A5 0 c5, .int .u64 0, .int .u64 0, .int .u64 0, .slice B5 0 d5, .slice C5 0 e5])) (.agg #[.int .i64 2, .int .u64 8, .bool true, .int .u64 0, .int .u64 0, .int .u64 0, .int .u64 0, .slice A5 0 c5, .int .u64 0, .int .u64 0, .int .u64 0, .slice B5 0 d5, .slice C5 0 e5]) p3 := (ra3).anyw rfl rfl rfl
      refine hK.out _ _ (below_setCells aw _ _ hH3) (fun hH4 => ?_)
      clear hK KK
      try simp only [List.getElem_toArray, List.getElem_cons_succ, List.getElem_cons_zero, Act.put, List.setIfInBounds_toArray, List.set_cons_zero, List.set_cons_succ]
      refine wpAnyH_take (i := 7) rfl (by kernel_rfl) (by kernel_rfl) (by kernel_rfl) (fun _ _ _ h => h) (yieldsIf_pure _ (.bool true) rfl (.inr rfl) rfl) hH4 ?_
      try simp only [List.getElem_toArray, List.getElem_cons_succ, List.getElem_cons_zero, Act.put, List.setIfInBounds_toArray, List.set_cons_zero, List.set_cons_succ]
      refine wpAnyH_done (by kernel_rfl) ?_ _
      go_wp2_with fail
      go_meet
      exact ⟨rfl, _, _, _, _, _, _, ka4, ra4, hH4⟩
    refine AllReadyH.cons rfl (fun KK hK => ?_) ?_
    · go_simp
      refine (hello_any 8 3 _).mono ?_
      rintro e x5 ⟨rfl, hb5⟩
      have ka5 := (k2).below hb5
      have ra5 := (r2).below hb5
      refine hK.out _ _ (bnext hH hb5) (fun hH5 => ?_)
      clear hK KK
      try simp only [List.getElem_toArray, List.getElem_cons_succ, List.getElem_cons_zero, Act.put, List.setIfInBounds_toArray, List.set_cons_zero, List.set_cons_succ]
      refine wpAnyH_ready (rs := [0]) (by kernel_rfl) (by simp) ?_
      refine AllReadyH.cons rfl (fun KK hK => ?_) AllReadyH.nil
      rw [if_pos (by rfl)]
      refine wp_load_row 31 _ rfl g1 rfl 31 #[.int .i64 2, .int .u64 8, .bool true, .int .u64 0, .int .u64 0, .int .u64 0, .int .u64 0, .slice A4 0 c4, .int .u64 0, .int .u64 0, .int .u64 0, .slice B4 0 d4, .slice C4 0 e4] (0, 0) _ ka5 Try.underlying31 (by rfl) (by kernel_rfl) ?_
      refine hK.out _ _ hH5 (fun hH6 => ?_)
      clear hK KK
      try simp only [List.getElem_toArray, List.getElem_cons_succ, List.getElem_cons_zero, Act.put, List.setIfInBounds_toArray, List.set_cons_zero, List.set_cons_succ]
      refine wpAnyH_ready (rs := [2]) (by kernel_rfl) (by simp) ?_
      refine AllReadyH.cons rfl (fun KK hK => ?_) AllReadyH.nil
      go_simp
      refine (meets_any p3 (wfP_small 2 8 true 0 (by decide) (by decide)) (hlo 8 3) (wfF_hlo 8 3 (by decide) (by decide)) p3 2 true kn5 kn6 rfl _ _ (ra5).at).mono ?_
      rintro e x7 ⟨V5, rfl, ⟨A5, c5, B5, d5, C5, e5, rfl, R5⟩, hb7⟩
      dsimp only [p3, zSend, zRec, List.length_nil] at R5 ⊢
      have ka7 := (ka5).below hb7
      have ra7 : PrB 0 x7 (.agg #[.int .i64 2, .int .u64 8, .bool true, .int .u64 0, .int .u64 0, .int .u64 0, .int .u64 0, .slice A5 0 c5, .int .u64 0, .int .u64 0, .int .u64 0, .slice B5 0 d5, .slice C5 0 e5]) p3 := PrB.low (B := x5.heap.size) ⟨A5, c5, B5, d5, C5, e5, rfl, R5⟩ (Nat.zero_le _)
      refine hK.out _ _ (bnext hH6 hb7) (fun hH7 => ?_)
      clear hK KK
      try simp only [List.getElem_toArray, List.getElem_cons_succ, List.getElem_cons_zero, Act.put, List.setIfInBounds_toArray, List.set_cons_zero, List.set_cons_succ]
      refine wpAnyH_take (i := 3) rfl (by kernel_rfl) (by kernel_rfl) (by kernel_rfl) (fun _ _ _ h => h) (yieldsIf_pure _ (.tuple #[.agg #[.int .i64 2, .int .u64 8, .bool true, .int .u64 0, .int .u64 0, .int .u64 0, .int .u64 0, .slice A5 0 c5, .int .u64 0, .int .u64 0, .int .u64 0, .slice B5 0 d5, .slice C5 0 e5], .bool true]) rfl (.inl rfl) rfl) hH7 ?_
      try simp only [List.getElem_toArray, List.getElem_cons_succ, List.getElem_cons_zero, Act.put, List.setIfInBounds_toArray, List.set_cons_zero, List.set_cons_succ]
      refine wpAnyH_take (i := 4) rfl (by kernel_rfl) (by kernel_rfl) (by kernel_rfl) (fun _ _ _ h => h) (yieldsIf_cell (.agg #[.int .i64 2, .int .u64 8, .bool true, .int .u64 0, .int .u64 0, .int .u64 0, .int .u64 0, .slice A5 0 c5, .int .u64 0, .int .u64 0, .int .u64 0, .slice B5 0 d5, .slice C5 0 e5]) rfl (fun w h => by go_simp)) hH7 ?_
      try simp only [List.getElem_toArray, List.getElem_cons_succ, List.getElem_cons_zero, Act.put, List.setIfInBounds_toArray, List.set_cons_zero, List.set_cons_succ]
      refine wpAnyH_take (i := 5) rfl (by kernel_rfl) (by kernel_rfl) (by kernel_rfl) (fun _ _ _ h => h) (yieldsIf_cell (.bool true) rfl (fun w h => by go_simp)) hH7 ?_
      try simp only [List.getElem_toArray, List.getElem_cons_succ, List.getElem_cons_zero, Act.put, List.setIfInBounds_toArray, List.set_cons_zero, List.set_cons_succ]
      refine wpAnyH_ready (rs := [6]) (by kernel_rfl) (by simp) ?_
      refine AllReadyH.cons rfl (fun KK hK => ?_) AllReadyH.nil
      rw [if_pos (by rfl)]
      refine wp_store_mid 31 _ _ rfl g1 0 #[.int .i64 2, .int .u64 8, .bool true, .int .u64 0, .int .u64 0, .int .u64 0, .int .u64 0, .slice A5 0 c5, .int .u64 0, .int .u64 0, .int .u64 0, .slice B5 0 d5, .slice C5 0 e5] rfl rfl (Blk.there ka7 0 _ (Nat.le_refl 13)) (by kernel_rfl) (by kernel_rfl) ?_
      have ka8 : Blk (x7.setCells g1 0 (Array.toList #[.int .i64 2, .int .u64 8, .bool true, .int .u64 0, .int .u64 0, .int .u64 0, .int .u64 0, .slice A5 0 c5, .int .u64 0, .int .u64 0, .int .u64 0, .slice B5 0 d5, .slice C5 0 e5])) g1 31 #[.int .i64 2, .int .u64 8, .bool true, .int .u64 0, .int .u64 0, .int .u64 0, .int .u64 0, .slice A5 0 c5, .int .u64 0, .int .u64 0, .int .u64 0, .slice B5 0 d5, .slice C5 0 e5] := (ka7).setAll rfl
      have ra8 : PrB 0 (x7.setCells g1 0 (Array.toList #[.int .i64 2, .int .u64 8, .bool true, .int .u64 0, .int .u64 0, .int .u64 0, .int .u64 0, .slice A5 0 c5, .int .u64 0, .int .u64 0, .int .u64 0, .slice B5 0 d5, .slice C5 0 e5])) (.agg #[.int .i64 2, .int .u64 8, .bool true, .int .u64 0, .int .u64 0, .int .u64 0, .int .u64 0, .slice A5 0 c5, .int .u64 0, .int .u64 0, .int .u64 0, .slice B5 0 d5, .slice C5 0 e5]) p3 := (ra7).anyw rfl rfl rfl
      refine hK.out _ _ (below_setCells aw _ _ hH7) (fun hH8 => ?_)
      clear hK KK
      try simp only [List.getElem_toArray, List.getElem_cons_succ, List.getElem_cons_zero, Act.put, List.setIfInBounds_toArray, List.set_cons_zero, List.set_cons_succ]
      refine wpAnyH_take (i := 7) rfl (by kernel_rfl) (by kernel_rfl) (by kernel_rfl) (fun _ _ _ h => h) (yieldsIf_pure _ (.bool true) rfl (.inr rfl) rfl) hH8 ?_
      try simp only [List.getElem_toArray, List.getElem_cons_succ, List.getElem_cons_zero, Act.put, List.setIfInBounds_toArray, List.set_cons_zero, List.set_cons_succ]
      refine wpAnyH_done (by kernel_rfl) ?_ _
      go_wp2_with fail
      go_meet
      exact ⟨rfl, _, _, _, _, _, _, ka8, ra8, hH8⟩
    exact AllReadyH.nil
  case rest =>
  clear k1 r1 hB
  obtain ⟨rfl, A5, c5, B5, d5, C5, e5, k1, r1, hB⟩ := hcut
  generalize wc = y5 at k1 r1 hB ⊢
  have hl1 := k1.lt
  go_wp2_with (first | (refine wpList_ldrow (by rfl) 31 _ (by rfl) g1 (by rfl) 31 #[.int .i64 2, .int .u64 8, .bool true, .int .u64 0, .int .u64 0, .int .u64 0, .int .u64 0, .slice A5 0 c5, .int .u64 0, .int .u64 0, .int .u64 0, .slice B5 0 d5, .slice C5 0 e5] (0, 0) _ k1 Try.underlying31 (by rfl) (by kernel_rfl) ?_))
  refine (kHello _ _ r1.at).mono ?_
  rintro e v1 ⟨rfl, hb⟩
  replace k1 := k1.below hb
  replace r1 := r1.below hb
  have hB2 := bnext hB hb
  clear hB hb hl1
  have hB := hB2
  clear hB2
  replace k1 := k1.alloc (.cells #[.int .i64 1, .int .i64 1, .int .i64 2, .int .u64 4, .int .u64 8, .int .u64 0, .int .u64 0, .int .i64 0, .int .u64 0, .int .i64 0, .int .i64 0, .int .u64 0, .int .i64 0, .int .i64 0, .int .i64 0, .int .i64 0, .int .i64 0, .int .i64 0, .string ⟨#[]⟩] 51)
  replace r1 := r1.below (bal (Below.refl _ _) (.cells #[.int .i64 1, .int .i64 1, .int .i64 2, .int .u64 4, .int .u64 8, .int .u64 0, .int .u64 0, .int .i64 0, .int .u64 0, .int .i64 0, .int .i64 0, .int .u64 0, .int .i64 0, .int .i64 0, .int .i64 0, .int .i64 0, .int .i64 0, .int .i64 0, .string ⟨#[]⟩] 51))
  have hl1 := k1.lt
  go_upto_region 9 with (first | (refine wpList_alloc_z (by rfl) 51 (by rfl) _ rfl #[.int .i64 0, .int .i64 0, .int .i64 0, .int .u64 0, .int .u64 0, .int .u64 0, .int .u64 0, .int .i64 0, .int .u64 0, .int .i64 0, .int .i64 0, .int .u64 0, .int .i64 0, .int .i64 0, .int .i64 0, .int .i64 0, .int .i64 0, .int .i64 0, .string ⟨#[]⟩] zeroFr ?_) | (refine wpList_store_new (by rfl) 51 _ _ (by rfl) v1 #[.int .i64 0, .int .i64 0, .int .i64 0, .int .u64 0, .int .u64 0, .int .u64 0, .int .u64 0, .int .i64 0, .int .u64 0, .int .i64 0, .int .i64 0, .int .u64 0, .int .i64 0, .int .i64 0, .int .i64 0, .int .i64 0, .int .i64 0, .int .i64 0, .string ⟨#[]⟩] #[.int .i64 1, .int .i64 1, .int .i64 2, .int .u64 4, .int .u64 8, .int .u64 0, .int .u64 0, .int .i64 0, .int .u64 0, .int .i64 0, .int .i64 0, .int .u64 0, .int .i64 0, .int .i64 0, .int .i64 0, .int .i64 0, .int .i64 0, .int .i64 0, .string ⟨#[]⟩] rfl (by rfl) (by rfl) (by kernel_rfl) rfl (one19 ..) ?_))
  clear hl1
  have k7 := Blk.new v1 51 #[.int .i64 1, .int .i64 1, .int .i64 2, .int .u64 4, .int .u64 8, .int .u64 0, .int .u64 0, .int .i64 0, .int .u64 0, .int .i64 0, .int .i64 0, .int .u64 0, .int .i64 0, .int .i64 0, .int .i64 0, .int .i64 0, .int .i64 0, .int .i64 0, .string ⟨#[]⟩]
  replace hB := bal hB (.cells #[.int .i64 1, .int .i64 1, .int .i64 2, .int .u64 4, .int .u64 8, .int .u64 0, .int .u64 0, .int .i64 0, .int .u64 0, .int .i64 0, .int .i64 0, .int .u64 0, .int .i64 0, .int .i64 0, .int .i64 0, .int .i64 0, .int .i64 0, .int .i64 0, .string ⟨#[]⟩] 51)
  obtain ⟨g7, hg⟩ : ∃ g7, v1.heap.size = g7 := ⟨_, rfl⟩
  rw [hg] at k7 ⊢
  clear hg
  generalize v1.alloc (.cells #[.int .i64 1, .int .i64 1, .int .i64 2, .int .u64 4, .int .u64 8, .int .u64 0, .int .u64 0, .int .i64 0, .int .u64 0, .int .i64 0, .int .i64 0, .int .u64 0, .int .i64 0, .int .i64 0, .int .i64 0, .int .i64 0, .int .i64 0, .int .i64 0, .string ⟨#[]⟩] 51) = v2 at k1 k7 hB r1 ⊢
  have hl1 := k1.lt
  have hl7 := k7.lt
  go_wp2_with (first | (refine wpList_ldrow (by rfl) 31 _ (by rfl) g1 (by rfl) 31 #[.int .i64 2, .int .u64 8, .bool true, .int .u64 0, .int .u64 0, .int .u64 0, .int .u64 0, .slice A5 0 c5, .int .u64 0, .int .u64 0, .int .u64 0, .slice B5 0 d5, .slice C5 0 e5] (0, 0) _ k1 Try.underlying31 (by rfl) (by kernel_rfl) ?_) | (refine wpList_ldrow (by rfl) 51 _ (by rfl) g7 (by rfl) 51 #[.int .i64 1, .int .i64 1, .int .i64 2, .int .u64 4, .int .u64 8, .int .u64 0, .int .u64 0, .int .i64 0, .int .u64 0, .int .i64 0, .int .i64 0, .int .u64 0, .int .i64 0, .int .i64 0, .int .i64 0, .int .i64 0, .int .i64 0, .int .i64 0, .string ⟨#[]⟩] (0, 0) _ k7 Try.underlying51 (by rfl) (by kernel_rfl) ?_))
  refine (kGrant _ _ (zPr_at' 0 _ 2 0 false 0).at).mono ?_
  rintro e v3 ⟨rfl, hb⟩
  replace k1 := k1.below hb
  replace k7 := k7.below hb
  replace r1 := r1.below hb
  have hB2 := bnext hB hb
  clear hB hb hl1 hl7
  have hB := hB2
  clear hB2
  replace k1 := k1.alloc (.cells #[.int .i64 0, .int .i64 0, .int .i64 0, .int .u64 0, .int .u64 0, .int .u64 0, .int .u64 0, .int .i64 0, .int .u64 0, .int .i64 0, .int .i64 0, .int .u64 0, .int .i64 0, .int .i64 0, .int .i64 0, .int .i64 0, .int .i64 0, .int .i64 0, .string ⟨#[]⟩] 51)
  replace k7 := k7.alloc (.cells #[.int .i64 0, .int .i64 0, .int .i64 0, .int .u64 0, .int .u64 0, .int .u64 0, .int .u64 0, .int .i64 0, .int .u64 0, .int .i64 0, .int .i64 0, .int .u64 0, .int .i64 0, .int .i64 0, .int .i64 0, .int .i64 0, .int .i64 0, .int .i64 0, .string ⟨#[]⟩] 51)
  replace r1 := r1.below (bal (Below.refl _ _) (.cells #[.int .i64 0, .int .i64 0, .int .i64 0, .int .u64 0, .int .u64 0, .int .u64 0, .int .u64 0, .int .i64 0, .int .u64 0, .int .i64 0, .int .i64 0, .int .u64 0, .int .i64 0, .int .i64 0, .int .i64 0, .int .i64 0, .int .i64 0, .int .i64 0, .string ⟨#[]⟩] 51))
  have hl1 := k1.lt
  have hl7 := k7.lt
  go_upto_region 10 with (first | (refine wpList_alloc_z (by rfl) 51 (by rfl) _ rfl #[.int .i64 0, .int .i64 0, .int .i64 0, .int .u64 0, .int .u64 0, .int .u64 0, .int .u64 0, .int .i64 0, .int .u64 0, .int .i64 0, .int .i64 0, .int .u64 0, .int .i64 0, .int .i64 0, .int .i64 0, .int .i64 0, .int .i64 0, .int .i64 0, .string ⟨#[]⟩] zeroFr ?_) | (refine wpList_store_new (by rfl) 51 _ _ (by rfl) v3 #[.int .i64 0, .int .i64 0, .int .i64 0, .int .u64 0, .int .u64 0, .int .u64 0, .int .u64 0, .int .i64 0, .int .u64 0, .int .i64 0, .int .i64 0, .int .u64 0, .int .i64 0, .int .i64 0, .int .i64 0, .int .i64 0, .int .i64 0, .int .i64 0, .string ⟨#[]⟩] #[.int .i64 0, .int .i64 0, .int .i64 0, .int .u64 0, .int .u64 0, .int .u64 0, .int .u64 0, .int .i64 0, .int .u64 0, .int .i64 0, .int .i64 0, .int .u64 0, .int .i64 0, .int .i64 0, .int .i64 0, .int .i64 0, .int .i64 0, .int .i64 0, .string ⟨#[]⟩] rfl (by rfl) (by rfl) (by kernel_rfl) rfl (one19 ..) ?_))
  clear hl1 hl7
  have k9 := Blk.new v3 51 #[.int .i64 0, .int .i64 0, .int .i64 0, .int .u64 0, .int .u64 0, .int .u64 0, .int .u64 0, .int .i64 0, .int .u64 0, .int .i64 0, .int .i64 0, .int .u64 0, .int .i64 0, .int .i64 0, .int .i64 0, .int .i64 0, .int .i64 0, .int .i64 0, .string ⟨#[]⟩]
  replace hB := bal hB (.cells #[.int .i64 0, .int .i64 0, .int .i64 0, .int .u64 0, .int .u64 0, .int .u64 0, .int .u64 0, .int .i64 0, .int .u64 0, .int .i64 0, .int .i64 0, .int .u64 0, .int .i64 0, .int .i64 0, .int .i64 0, .int .i64 0, .int .i64 0, .int .i64 0, .string ⟨#[]⟩] 51)
  obtain ⟨g9, hg⟩ : ∃ g9, v3.heap.size = g9 := ⟨_, rfl⟩
  rw [hg] at k9 ⊢
  clear hg
  generalize v3.alloc (.cells #[.int .i64 0, .int .i64 0, .int .i64 0, .int .u64 0, .int .u64 0, .int .u64 0, .int .u64 0, .int .i64 0, .int .u64 0, .int .i64 0, .int .i64 0, .int .u64 0, .int .i64 0, .int .i64 0, .int .i64 0, .int .i64 0, .int .i64 0, .int .i64 0, .string ⟨#[]⟩] 51) = v4 at k1 k7 k9 hB r1 ⊢
  have hl1 := k1.lt
  have hl7 := k7.lt
  have hl9 := k9.lt
  go_upto_region 12 with (first | (refine wpList_ldrow (by rfl) 31 _ (by rfl) g1 (by rfl) 31 #[.int .i64 2, .int .u64 8, .bool true, .int .u64 0, .int .u64 0, .int .u64 0, .int .u64 0, .slice A5 0 c5, .int .u64 0, .int .u64 0, .int .u64 0, .slice B5 0 d5, .slice C5 0 e5] (0, 0) _ k1 Try.underlying31 (by rfl) (by kernel_rfl) ?_) | (refine wpList_ldrow (by rfl) 51 _ (by rfl) g7 (by rfl) 51 #[.int .i64 1, .int .i64 1, .int .i64 2, .int .u64 4, .int .u64 8, .int .u64 0, .int .u64 0, .int .i64 0, .int .u64 0, .int .i64 0, .int .i64 0, .int .u64 0, .int .i64 0, .int .i64 0, .int .i64 0, .int .i64 0, .int .i64 0, .int .i64 0, .string ⟨#[]⟩] (0, 0) _ k7 Try.underlying51 (by rfl) (by kernel_rfl) ?_) | (refine wpList_ldrow (by rfl) 51 _ (by rfl) g9 (by rfl) 51 #[.int .i64 0, .int .i64 0, .int .i64 0, .int .u64 0, .int .u64 0, .int .u64 0, .int .u64 0, .int .i64 0, .int .u64 0, .int .i64 0, .int .i64 0, .int .u64 0, .int .i64 0, .int .i64 0, .int .i64 0, .int .i64 0, .int .i64 0, .int .i64 0, .string ⟨#[]⟩] (0, 0) _ k9 Try.underlying51 (by rfl) (by kernel_rfl) ?_) | (refine wpList_buildX (by rfl) 51 _ FHp (.agg #[.int .i64 1, .int .i64 1, .int .i64 2, .int .u64 4, .int .u64 8, .int .u64 0, .int .u64 0, .int .i64 0, .int .u64 0, .int .i64 0, .int .i64 0, .int .u64 0, .int .i64 0, .int .i64 0, .int .i64 0, .int .i64 0, .int .i64 0, .int .i64 0, .string ⟨#[]⟩]) (by rfl) (by rfl) bld_fh ?_) | (refine wpList_binX (by rfl) .neq 51 _ _ _ (.agg #[.int .i64 1, .int .i64 1, .int .i64 2, .int .u64 4, .int .u64 8, .int .u64 0, .int .u64 0, .int .i64 0, .int .u64 0, .int .i64 0, .int .i64 0, .int .u64 0, .int .i64 0, .int .i64 0, .int .i64 0, .int .i64 0, .int .i64 0, .int .i64 0, .string ⟨#[]⟩]) (.agg #[.int .i64 1, .int .i64 1, .int .i64 2, .int .u64 4, .int .u64 8, .int .u64 0, .int .u64 0, .int .i64 0, .int .u64 0, .int .i64 0, .int .i64 0, .int .u64 0, .int .i64 0, .int .i64 0, .int .i64 0, .int .i64 0, .int .i64 0, .int .i64 0, .string ⟨#[]⟩]) (.bool false) (by rfl) (by rfl) (by rfl) (fun w => grdFrN _ _ _ _ w) (fun w => run_ne_fr0 _ _ _ _ _ _ _ _ _ _ _ _ _ _ _ _ _ _ _ w) ?_))
  clear k1 k7 k9 r1 hl1 hl7 hl9
  go_upto_region 13 with (first | (refine wpList_alloc_z (by rfl) 31 (by rfl) _ rfl #[.int .i64 0, .int .u64 0, .bool false, .int .u64 0, .int .u64 0, .int .u64 0, .int .u64 0, .slice none 0 0, .int .u64 0, .int .u64 0, .int .u64 0, .slice none 0 0, .slice none 0 0] (fun w => by kernel_rfl) ?_) | (refine wpList_store_new (by rfl) 31 _ _ (by rfl) _ #[.int .i64 0, .int .u64 0, .bool false, .int .u64 0, .int .u64 0, .int .u64 0, .int .u64 0, .slice none 0 0, .int .u64 0, .int .u64 0, .int .u64 0, .slice none 0 0, .slice none 0 0] #[.int .i64 2, .int .u64 8, .bool true, .int .u64 0, .int .u64 0, .int .u64 0, .int .u64 0, .slice none 0 0, .int .u64 100, .int .u64 0, .int .u64 0, .slice (some ⟨v4.heap.size, 0, none⟩) 1 1, .slice none 0 0] rfl (by rfl) (by rfl) (by kernel_rfl) rfl (by kernel_rfl) ?_))
  have kr := (Blk.new v4 74 #[.int .u64 0, .int .u64 30]).alloc (.cells #[.int .i64 2, .int .u64 8, .bool true, .int .u64 0, .int .u64 0, .int .u64 0, .int .u64 0, .slice none 0 0, .int .u64 100, .int .u64 0, .int .u64 0, .slice (some ⟨v4.heap.size, 0, none⟩) 1 1, .slice none 0 0] 31)
  have rq : PrAt ((v4.alloc (.cells #[.int .u64 0, .int .u64 30] 74)).alloc (.cells #[.int .i64 2, .int .u64 8, .bool true, .int .u64 0, .int .u64 0, .int .u64 0, .int .u64 0, .slice none 0 0, .int .u64 100, .int .u64 0, .int .u64 0, .slice (some ⟨v4.heap.size, 0, none⟩) 1 1, .slice none 0 0] 31)) (.agg #[.int .i64 2, .int .u64 8, .bool true, .int .u64 0, .int .u64 0, .int .u64 0, .int .u64 0, .slice none 0 0, .int .u64 100, .int .u64 0, .int .u64 0, .slice (some ⟨v4.heap.size, 0, none⟩) 1 1, .slice none 0 0]) pq := ⟨_, _, _, rfl, (RowB.nil 0 _ 5).at, kn_rg kr, (RowB.nil 0 _ 1).at⟩
  have k11 := Blk.new (v4.alloc (.cells #[.int .u64 0, .int .u64 30] 74)) 31 #[.int .i64 2, .int .u64 8, .bool true, .int .u64 0, .int .u64 0, .int .u64 0, .int .u64 0, .slice none 0 0, .int .u64 100, .int .u64 0, .int .u64 0, .slice (some ⟨v4.heap.size, 0, none⟩) 1 1, .slice none 0 0]
  replace hB := bal (bal hB (.cells #[.int .u64 0, .int .u64 30] 74)) (.cells #[.int .i64 2, .int .u64 8, .bool true, .int .u64 0, .int .u64 0, .int .u64 0, .int .u64 0, .slice none 0 0, .int .u64 100, .int .u64 0, .int .u64 0, .slice (some ⟨v4.heap.size, 0, none⟩) 1 1, .slice none 0 0] 31)
  clear kr
  obtain ⟨g11, hg⟩ : ∃ g, (v4.alloc (.cells #[.int .u64 0, .int .u64 30] 74)).heap.size = g := ⟨_, rfl⟩
  rw [hg] at k11 ⊢
  clear hg
  generalize (v4.alloc (.cells #[.int .u64 0, .int .u64 30] 74)).alloc (.cells #[.int .i64 2, .int .u64 8, .bool true, .int .u64 0, .int .u64 0, .int .u64 0, .int .u64 0, .slice none 0 0, .int .u64 100, .int .u64 0, .int .u64 0, .slice (some ⟨v4.heap.size, 0, none⟩) 1 1, .slice none 0 0] 31) = v5 at rq k11 hB ⊢
  obtain ⟨gq, hg⟩ : ∃ g, v4.heap.size = g := ⟨_, rfl⟩
  rw [hg] at rq k11
  clear hg
  have hl11 := k11.lt
  go_wp2_with (first | (refine wpList_ldrow (by rfl) 31 _ (by rfl) g11 (by rfl) 31 #[.int .i64 2, .int .u64 8, .bool true, .int .u64 0, .int .u64 0, .int .u64 0, .int .u64 0, .slice none 0 0, .int .u64 100, .int .u64 0, .int .u64 0, .slice (some ⟨gq, 0, none⟩) 1 1, .slice none 0 0] (0, 0) _ k11 Try.underlying31 (by rfl) (by kernel_rfl) ?_))
  refine (kRestart _ _ rq).mono ?_
  rintro e v6 ⟨A6, c6, B6, d6, C6, e6, rfl, hV, hb⟩
  replace k11 := k11.below hb
  replace rq := rq.below hb
  have hB2 := bnext hB hb
  clear hB hb hl11
  have hB := hB2
  clear hB2
  replace k11 := k11.alloc (.cells #[.int .i64 2, .int .u64 8, .bool false, .int .u64 70, .int .u64 0, .int .u64 0, .int .u64 0, .slice A6 0 c6, .int .u64 0, .int .u64 0, .int .u64 0, .slice B6 0 d6, .slice C6 0 e6] 31)
  replace rq := rq.below (bal (Below.refl _ _) (.cells #[.int .i64 2, .int .u64 8, .bool false, .int .u64 70, .int .u64 0, .int .u64 0, .int .u64 0, .slice A6 0 c6, .int .u64 0, .int .u64 0, .int .u64 0, .slice B6 0 d6, .slice C6 0 e6] 31))
  have hl11 := k11.lt
  go_upto_region 14 with (first | (refine wpList_alloc_z (by rfl) 31 (by rfl) _ rfl #[.int .i64 0, .int .u64 0, .bool false, .int .u64 0, .int .u64 0, .int .u64 0, .int .u64 0, .slice none 0 0, .int .u64 0, .int .u64 0, .int .u64 0, .slice none 0 0, .slice none 0 0] (fun w => by kernel_rfl) ?_) | (refine wpList_store_new (by rfl) 31 _ _ (by rfl) v6 #[.int .i64 0, .int .u64 0, .bool false, .int .u64 0, .int .u64 0, .int .u64 0, .int .u64 0, .slice none 0 0, .int .u64 0, .int .u64 0, .int .u64 0, .slice none 0 0, .slice none 0 0] #[.int .i64 2, .int .u64 8, .bool false, .int .u64 70, .int .u64 0, .int .u64 0, .int .u64 0, .slice A6 0 c6, .int .u64 0, .int .u64 0, .int .u64 0, .slice B6 0 d6, .slice C6 0 e6] rfl (by rfl) (by rfl) (by kernel_rfl) rfl (by kernel_rfl) ?_))
  clear hl11
  have k12 := Blk.new v6 31 #[.int .i64 2, .int .u64 8, .bool false, .int .u64 70, .int .u64 0, .int .u64 0, .int .u64 0, .slice A6 0 c6, .int .u64 0, .int .u64 0, .int .u64 0, .slice B6 0 d6, .slice C6 0 e6]
  replace hB := bal hB (.cells #[.int .i64 2, .int .u64 8, .bool false, .int .u64 70, .int .u64 0, .int .u64 0, .int .u64 0, .slice A6 0 c6, .int .u64 0, .int .u64 0, .int .u64 0, .slice B6 0 d6, .slice C6 0 e6] 31)
  obtain ⟨g12, hg⟩ : ∃ g12, v6.heap.size = g12 := ⟨_, rfl⟩
  rw [hg] at k12 ⊢
  clear hg
  generalize v6.alloc (.cells #[.int .i64 2, .int .u64 8, .bool false, .int .u64 70, .int .u64 0, .int .u64 0, .int .u64 0, .slice A6 0 c6, .int .u64 0, .int .u64 0, .int .u64 0, .slice B6 0 d6, .slice C6 0 e6] 31) = v7 at k11 k12 hB rq ⊢
  have rr : PrB 0 v7 (.agg #[.int .i64 2, .int .u64 8, .bool false, .int .u64 70, .int .u64 0, .int .u64 0, .int .u64 0, .slice A6 0 c6, .int .u64 0, .int .u64 0, .int .u64 0, .slice B6 0 d6, .slice C6 0 e6]) pr := (hV.low (Nat.zero_le _)).anyw rfl rfl rfl
  clear hV
  have hl11 := k11.lt
  have hl12 := k12.lt
  go_wp2_with (first | (refine wpList_ldrow (by rfl) 31 _ (by rfl) g11 (by rfl) 31 #[.int .i64 2, .int .u64 8, .bool true, .int .u64 0, .int .u64 0, .int .u64 0, .int .u64 0, .slice none 0 0, .int .u64 100, .int .u64 0, .int .u64 0, .slice (some ⟨gq, 0, none⟩) 1 1, .slice none 0 0] (0, 0) _ k11 Try.underlying31 (by rfl) (by kernel_rfl) ?_) | (refine wpList_ldrow (by rfl) 31 _ (by rfl) g12 (by rfl) 31 #[.int .i64 2, .int .u64 8, .bool false, .int .u64 70, .int .u64 0, .int .u64 0, .int .u64 0, .slice A6 0 c6, .int .u64 0, .int .u64 0, .int .u64 0, .slice B6 0 d6, .slice C6 0 e6] (0, 0) _ k12 Try.underlying31 (by rfl) (by kernel_rfl) ?_))
  refine (held_true pq wfP_pq 70 kn11 kn12 _ _ rq).mono ?_
  rintro e v8 ⟨rfl, hb⟩
  replace k11 := k11.below hb
  replace k12 := k12.below hb
  replace rq := rq.below hb
  replace rr := rr.below hb
  have hB2 := bnext hB hb
  clear hB hb hl11 hl12
  have hB := hB2
  clear hB2
  have hl11 := k11.lt
  have hl12 := k12.lt
  go_wp2_with (first | (refine wpList_ldrow (by rfl) 31 _ (by rfl) g11 (by rfl) 31 #[.int .i64 2, .int .u64 8, .bool true, .int .u64 0, .int .u64 0, .int .u64 0, .int .u64 0, .slice none 0 0, .int .u64 100, .int .u64 0, .int .u64 0, .slice (some ⟨gq, 0, none⟩) 1 1, .slice none 0 0] (0, 0) _ k11 Try.underlying31 (by rfl) (by kernel_rfl) ?_) | (refine wpList_ldrow (by rfl) 31 _ (by rfl) g12 (by rfl) 31 #[.int .i64 2, .int .u64 8, .bool false, .int .u64 70, .int .u64 0, .int .u64 0, .int .u64 0, .slice A6 0 c6, .int .u64 0, .int .u64 0, .int .u64 0, .slice B6 0 d6, .slice C6 0 e6] (0, 0) _ k12 Try.underlying31 (by rfl) (by kernel_rfl) ?_))
  refine (held_true pr wfP_pr 70 kn14 kn15 _ _ rr.at).mono ?_
  rintro e v9 ⟨rfl, hb⟩
  replace k11 := k11.below hb
  replace k12 := k12.below hb
  replace rq := rq.below hb
  replace rr := rr.below hb
  have hB2 := bnext hB hb
  clear hB hb hl11 hl12
  have hB := hB2
  clear hB2
  clear k11 rq
  have hl12 := k12.lt
  obtain ⟨x0, x1, x2, x3, x4, x5, x6, x7, x8, x9, x10, x11, x12⟩ := k12.c13
  go_upto_region 16 with fail
  clear x0 x1 x2 x3 x4 x5 x6 x7 x8 x9 x10 x11 x12 hl12
  go_cut [3, 13] (fun s3 s13 wx => s3 = .bool true ∧ ∃ g A7 c7 B7 d7 C7 e7, s13 = .pointer (some ⟨g, 0, none⟩) ∧ Blk wx g 31 #[.int .i64 2, .int .u64 8, .bool true, .int .u64 0, .int .u64 0, .int .u64 0, .int .u64 0, .slice A7 0 c7, .int .u64 0, .int .u64 0, .int .u64 0, .slice B7 0 d7, .slice C7 0 e7] ∧ PrB 0 wx (.agg #[.int .i64 2, .int .u64 8, .bool true, .int .u64 0, .int .u64 0, .int .u64 0, .int .u64 0, .slice A7 0 c7, .int .u64 0, .int .u64 0, .int .u64 0, .slice B7 0 d7, .slice C7 0 e7]) p3 ∧ Below w.heap.size w wx)
  case first =>
    have k2 : Blk v9.drew g12 31 #[.int .i64 2, .int .u64 8, .bool false, .int .u64 70, .int .u64 0, .int .u64 0, .int .u64 0, .slice A6 0 c6, .int .u64 0, .int .u64 0, .int .u64 0, .slice B6 0 d6, .slice C6 0 e6] := k12
    have r2 : PrB 0 v9.drew (.agg #[.int .i64 2, .int .u64 8, .bool false, .int .u64 70, .int .u64 0, .int .u64 0, .int .u64 0, .slice A6 0 c6, .int .u64 0, .int .u64 0, .int .u64 0, .slice B6 0 d6, .slice C6 0 e6]) pr := rr.anyw rfl rfl rfl
    have hB3 : Below w.heap.size w v9.drew := hB.drew
    refine wp_region_held_drew (S := fun wx => Below w.heap.size w wx ∧ Blk wx g12 31 #[.int .i64 2, .int .u64 8, .bool false, .int .u64 70, .int .u64 0, .int .u64 0, .int .u64 0, .slice A6 0 c6, .int .u64 0, .int .u64 0, .int .u64 0, .slice B6 0 d6, .slice C6 0 e6] ∧ PrB 0 wx (.agg #[.int .i64 2, .int .u64 8, .bool false, .int .u64 70, .int .u64 0, .int .u64 0, .int .u64 0, .slice A6 0 c6, .int .u64 0, .int .u64 0, .int .u64 0, .slice B6 0 d6, .slice C6 0 e6]) pr) (by kernel_rfl) ⟨hB3, k2, r2⟩ (fun hH => ?_)
    generalize v9.drew = x0 at hH ⊢
    clear k12 rr hB k2 r2 hB3
    refine wpAnyH_take (i := 0) rfl (by kernel_rfl) (by kernel_rfl) (by kernel_rfl) (fun _ _ _ h => h) (yieldsIf_row (g12) 31 #[.int .i64 2, .int .u64 8, .bool false, .int .u64 70, .int .u64 0, .int .u64 0, .int .u64 0, .slice A6 0 c6, .int .u64 0, .int .u64 0, .int .u64 0, .slice B6 0 d6, .slice C6 0 e6] 31 _ _ rfl rfl rfl (fun w h => h.2.1) Try.underlying31 rfl (by kernel_rfl)) hH ?_
    try simp only [List.getElem_toArray, List.getElem_cons_succ, List.getElem_cons_zero, Act.put, List.setIfInBounds_toArray, List.set_cons_zero, List.set_cons_succ]
    refine wpAnyH_ready (rs := [1, 6]) (by kernel_rfl) (by simp) ?_
    refine AllReadyH.cons rfl (fun KK hK => ?_) ?_
    · go_simp
      refine (grant_any 8 4 _).mono ?_
      rintro e x1 ⟨rfl, hb1⟩
      refine hK.out _ _ ⟨bnext hH.1 hb1, hH.2.1.below hb1, hH.2.2.below hb1⟩ (fun hH1 => ?_)
      clear hK KK
      try simp only [List.getElem_toArray, List.getElem_cons_succ, List.getElem_cons_zero, Act.put, List.setIfInBounds_toArray, List.set_cons_zero, List.set_cons_succ]
      refine wpAnyH_ready (rs := [2, 6]) (by kernel_rfl) (by simp) ?_
      refine AllReadyH.cons rfl (fun KK hK => ?_) ?_
      · go_simp
        refine (meets_any pr wfP_pr (grt 8 4) (wfF_grt 8 4 (by decide) (by decide)) p3 3 false kn16 kn17 rfl _ _ hH1.2.2.at).mono ?_
        rintro e x2 ⟨V7, rfl, ⟨A7, c7, B7, d7, C7, e7, rfl, R7⟩, hb2⟩
        dsimp only [p3, zSend, zRec, List.length_nil] at R7 ⊢
        have r7 : PrB 0 x2 (.agg #[.int .i64 2, .int .u64 8, .bool true, .int .u64 0, .int .u64 0, .int .u64 0, .int .u64 0, .slice A7 0 c7, .int .u64 0, .int .u64 0, .int .u64 0, .slice B7 0 d7, .slice C7 0 e7]) p3 := PrB.low (B := x1.heap.size) ⟨A7, c7, B7, d7, C7, e7, rfl, R7⟩ (Nat.zero_le _)
        refine hK.out _ _ ⟨bnext hH1.1 hb2, hH1.2.1.below hb2, hH1.2.2.below hb2⟩ (fun hH2 => ?_)
        clear hK KK
        try simp only [List.getElem_toArray, List.getElem_cons_succ, List.getElem_cons_zero, Act.put, List.setIfInBounds_toArray, List.set_cons_zero, List.set_cons_succ]
        refine wpAnyH_take (i := 3) rfl (by kernel_rfl) (by kernel_rfl) (by kernel_rfl) (fun _ _ _ h => h) (yieldsIf_pure _ (.tuple #[.agg #[.int .i64 2, .int .u64 8, .bool true, .int .u64 0, .int .u64 0, .int .u64 0, .int .u64 0, .slice A7 0 c7, .int .u64 0, .int .u64 0, .int .u64 0, .slice B7 0 d7, .slice C7 0 e7], .bool true]) rfl (.inl rfl) rfl) hH2 ?_
        try simp only [List.getElem_toArray, List.getElem_cons_succ, List.getElem_cons_zero, Act.put, List.setIfInBounds_toArray, List.set_cons_zero, List.set_cons_succ]
        refine wpAnyH_take (i := 4) rfl (by kernel_rfl) (by kernel_rfl) (by kernel_rfl) (fun _ _ _ h => h) (yieldsIf_cell (.agg #[.int .i64 2, .int .u64 8, .bool true, .int .u64 0, .int .u64 0, .int .u64 0, .int .u64 0, .slice A7 0 c7, .int .u64 0, .int .u64 0, .int .u64 0, .slice B7 0 d7, .slice C7 0 e7]) rfl (fun w h => by go_simp)) hH2 ?_
        try simp only [List.getElem_toArray, List.getElem_cons_succ, List.getElem_cons_zero, Act.put, List.setIfInBounds_toArray, List.set_cons_zero, List.set_cons_succ]
        refine wpAnyH_take (i := 5) rfl (by kernel_rfl) (by kernel_rfl) (by kernel_rfl) (fun _ _ _ h => h) (yieldsIf_cell (.bool true) rfl (fun w h => by go_simp)) hH2 ?_
        try simp only [List.getElem_toArray, List.getElem_cons_succ, List.getElem_cons_zero, Act.put, List.setIfInBounds_toArray, List.set_cons_zero, List.set_cons_succ]
        refine wpAnyH_ready (rs := [6]) (by kernel_rfl) (by simp) ?_
        refine AllReadyH.cons rfl (fun KK hK => ?_) AllReadyH.nil
        go_simp
        have hb3 := bal (Below.refl x2.heap.size x2) (.cells #[.int .i64 0, .int .u64 0, .bool false, .int .u64 0, .int .u64 0, .int .u64 0, .int .u64 0, .slice none 0 0, .int .u64 0, .int .u64 0, .int .u64 0, .slice none 0 0, .slice none 0 0] 31)
        have ka3 := Blk.new x2 31 #[.int .i64 0, .int .u64 0, .bool false, .int .u64 0, .int .u64 0, .int .u64 0, .int .u64 0, .slice none 0 0, .int .u64 0, .int .u64 0, .int .u64 0, .slice none 0 0, .slice none 0 0]
        have al3 : ¬ g12 = x2.heap.size := Nat.ne_of_lt hH2.2.1.lt
        have aw3 : w.heap.size ≤ x2.heap.size := hH2.1.size
        obtain ⟨x3, hx3⟩ : ∃ x, x2.alloc (.cells #[.int .i64 0, .int .u64 0, .bool false, .int .u64 0, .int .u64 0, .int .u64 0, .int .u64 0, .slice none 0 0, .int .u64 0, .int .u64 0, .int .u64 0, .slice none 0 0, .slice none 0 0] 31) = x := ⟨_, rfl⟩
        rw [hx3] at ka3 hb3 ⊢
        refine hK.out _ _ ⟨bnext hH2.1 hb3, hH2.2.1.below hb3, hH2.2.2.below hb3⟩ (fun hH3 => ?_)
        clear hK KK
        try simp only [List.getElem_toArray, List.getElem_cons_succ, List.getElem_cons_zero, Act.put, List.setIfInBounds_toArray, List.set_cons_zero, List.set_cons_succ]
        refine wpAnyH_ready (rs := [7]) (by kernel_rfl) (by simp) ?_
        refine AllReadyH.cons rfl (fun KK hK => ?_) AllReadyH.nil
        rw [if_pos (by rfl)]
        refine wp_store_mid 31 _ _ rfl (x2.heap.size) 0 #[.int .i64 2, .int .u64 8, .bool true, .int .u64 0, .int .u64 0, .int .u64 0, .int .u64 0, .slice A7 0 c7, .int .u64 0, .int .u64 0, .int .u64 0, .slice B7 0 d7, .slice C7 0 e7] rfl rfl (Blk.there ka3 0 _ (Nat.le_refl 13)) (by kernel_rfl) (by kernel_rfl) ?_
        have ka4 : Blk (x3.setCells (x2.heap.size) 0 (Array.toList #[.int .i64 2, .int .u64 8, .bool true, .int .u64 0, .int .u64 0, .int .u64 0, .int .u64 0, .slice A7 0 c7, .int .u64 0, .int .u64 0, .int .u64 0, .slice B7 0 d7, .slice C7 0 e7])) (x2.heap.size) 31 #[.int .i64 2, .int .u64 8, .bool true, .int .u64 0, .int .u64 0, .int .u64 0, .int .u64 0, .slice A7 0 c7, .int .u64 0, .int .u64 0, .int .u64 0, .slice B7 0 d7, .slice C7 0 e7] := (ka3).setAll rfl
        refine hK.out _ _ ⟨below_setCells aw3 _ _ hH3.1, hH3.2.1.farAll al3 _ _, hH3.2.2.anyw rfl rfl rfl⟩ (fun hH4 => ?_)
        clear hK KK
        try simp only [List.getElem_toArray, List.getElem_cons_succ, List.getElem_cons_zero, Act.put, List.setIfInBounds_toArray, List.set_cons_zero, List.set_cons_succ]
        refine wpAnyH_take (i := 8) rfl (by kernel_rfl) (by kernel_rfl) (by kernel_rfl) (fun _ _ _ h => h) (yieldsIf_pure _ (.bool true) rfl (.inr rfl) rfl) hH4 ?_
        try simp only [List.getElem_toArray, List.getElem_cons_succ, List.getElem_cons_zero, Act.put, List.setIfInBounds_toArray, List.set_cons_zero, List.set_cons_succ]
        refine wpAnyH_done (by kernel_rfl) ?_ _
        go_wp2_with fail
        go_meet
        exact ⟨rfl, _, _, _, _, _, _, _, rfl, ka4, r7.anyw rfl rfl rfl, hH4.1⟩
      refine AllReadyH.cons rfl (fun KK hK => ?_) ?_
      · go_simp
        have hb5 := bal (Below.refl x1.heap.size x1) (.cells #[.int .i64 0, .int .u64 0, .bool false, .int .u64 0, .int .u64 0, .int .u64 0, .int .u64 0, .slice none 0 0, .int .u64 0, .int .u64 0, .int .u64 0, .slice none 0 0, .slice none 0 0] 31)
        have ka5 := Blk.new x1 31 #[.int .i64 0, .int .u64 0, .bool false, .int .u64 0, .int .u64 0, .int .u64 0, .int .u64 0, .slice none 0 0, .int .u64 0, .int .u64 0, .int .u64 0, .slice none 0 0, .slice none 0 0]
        have al5 : ¬ g12 = x1.heap.size := Nat.ne_of_lt hH1.2.1.lt
        have aw5 : w.heap.size ≤ x1.heap.size := hH1.1.size
        obtain ⟨x5, hx5⟩ : ∃ x, x1.alloc (.cells #[.int .i64 0, .int .u64 0, .bool false, .int .u64 0, .int .u64 0, .int .u64 0, .int .u64 0, .slice none 0 0, .int .u64 0, .int .u64 0, .int .u64 0, .slice none 0 0, .slice none 0 0] 31) = x := ⟨_, rfl⟩
        rw [hx5] at ka5 hb5 ⊢
        refine hK.out _ _ ⟨bnext hH1.1 hb5, hH1.2.1.below hb5, hH1.2.2.below hb5⟩ (fun hH5 => ?_)
        clear hK KK
        try simp only [List.getElem_toArray, List.getElem_cons_succ, List.getElem_cons_zero, Act.put, List.setIfInBounds_toArray, List.set_cons_zero, List.set_cons_succ]
        refine wpAnyH_ready (rs := [2]) (by kernel_rfl) (by simp) ?_
        refine AllReadyH.cons rfl (fun KK hK => ?_) AllReadyH.nil
        go_simp
        refine (meets_any pr wfP_pr (grt 8 4) (wfF_grt 8 4 (by decide) (by decide)) p3 3 false kn16 kn17 rfl _ _ hH5.2.2.at).mono ?_
        rintro e x6 ⟨V7, rfl, ⟨A7, c7, B7, d7, C7, e7, rfl, R7⟩, hb6⟩
        dsimp only [p3, zSend, zRec, List.length_nil] at R7 ⊢
        have r7 : PrB 0 x6 (.agg #[.int .i64 2, .int .u64 8, .bool true, .int .u64 0, .int .u64 0, .int .u64 0, .int .u64 0, .slice A7 0 c7, .int .u64 0, .int .u64 0, .int .u64 0, .slice B7 0 d7, .slice C7 0 e7]) p3 := PrB.low (B := x5.heap.size) ⟨A7, c7, B7, d7, C7, e7, rfl, R7⟩ (Nat.zero_le _)
        have ka6 := (ka5).below hb6
        refine hK.out _ _ ⟨bnext hH5.1 hb6, hH5.2.1.below hb6, hH5.2.2.below hb6⟩ (fun hH6 => ?_)
        clear hK KK
        try simp only [List.getElem_toArray, List.getElem_cons_succ, List.getElem_cons_zero, Act.put, List.setIfInBounds_toArray, List.set_cons_zero, List.set_cons_succ]
        refine wpAnyH_take (i := 3) rfl (by kernel_rfl) (by kernel_rfl) (by kernel_rfl) (fun _ _ _ h => h) (yieldsIf_pure _ (.tuple #[.agg #[.int .i64 2, .int .u64 8, .bool true, .int .u64 0, .int .u64 0, .int .u64 0, .int .u64 0, .slice A7 0 c7, .int .u64 0, .int .u64 0, .int .u64 0, .slice B7 0 d7, .slice C7 0 e7], .bool true]) rfl (.inl rfl) rfl) hH6 ?_
        try simp only [List.getElem_toArray, List.getElem_cons_succ, List.getElem_cons_zero, Act.put, List.setIfInBounds_toArray, List.set_cons_zero, List.set_cons_succ]
        refine wpAnyH_take (i := 4) rfl (by kernel_rfl) (by kernel_rfl) (by kernel_rfl) (fun _ _ _ h => h) (yieldsIf_cell (.agg #[.int .i64 2, .int .u64 8, .bool true, .int .u64 0, .int .u64 0, .int .u64 0, .int .u64 0, .slice A7 0 c7, .int .u64 0, .int .u64 0, .int .u64 0, .slice B7 0 d7, .slice C7 0 e7]) rfl (fun w h => by go_simp)) hH6 ?_
        try simp only [List.getElem_toArray, List.getElem_cons_succ, List.getElem_cons_zero, Act.put, List.setIfInBounds_toArray, List.set_cons_zero, List.set_cons_succ]
        refine wpAnyH_take (i := 5) rfl (by kernel_rfl) (by kernel_rfl) (by kernel_rfl) (fun _ _ _ h => h) (yieldsIf_cell (.bool true) rfl (fun w h => by go_simp)) hH6 ?_
        try simp only [List.getElem_toArray, List.getElem_cons_succ, List.getElem_cons_zero, Act.put, List.setIfInBounds_toArray, List.set_cons_zero, List.set_cons_succ]
        refine wpAnyH_ready (rs := [7]) (by kernel_rfl) (by simp) ?_
        refine AllReadyH.cons rfl (fun KK hK => ?_) AllReadyH.nil
        rw [if_pos (by rfl)]
        refine wp_store_mid 31 _ _ rfl (x1.heap.size) 0 #[.int .i64 2, .int .u64 8, .bool true, .int .u64 0, .int .u64 0, .int .u64 0, .int .u64 0, .slice A7 0 c7, .int .u64 0, .int .u64 0, .int .u64 0, .slice B7 0 d7, .slice C7 0 e7] rfl rfl (Blk.there ka6 0 _ (Nat.le_refl 13)) (by kernel_rfl) (by kernel_rfl) ?_
        have ka7 : Blk (x6.setCells (x1.heap.size) 0 (Array.toList #[.int .i64 2, .int .u64 8, .bool true, .int .u64 0, .int .u64 0, .int .u64 0, .int .u64 0, .slice A7 0 c7, .int .u64 0, .int .u64 0, .int .u64 0, .slice B7 0 d7, .slice C7 0 e7])) (x1.heap.size) 31 #[.int .i64 2, .int .u64 8, .bool true, .int .u64 0, .int .u64 0, .int .u64 0, .int .u64 0, .slice A7 0 c7, .int .u64 0, .int .u64 0, .int .u64 0, .slice B7 0 d7, .slice C7 0 e7] := (ka6).setAll rfl
        refine hK.out _ _ ⟨below_setCells aw5 _ _ hH6.1, hH6.2.1.farAll al5 _ _, hH6.2.2.anyw rfl rfl rfl⟩ (fun hH7 => ?_)
        clear hK KK
        try simp only [List.getElem_toArray, List.getElem_cons_succ, List.getElem_cons_zero, Act.put, List.setIfInBounds_toArray, List.set_cons_zero, List.set_cons_succ]
        refine wpAnyH_take (i := 8) rfl (by kernel_rfl) (by kernel_rfl) (by kernel_rfl) (fun _ _ _ h => h) (yieldsIf_pure _ (.bool true) rfl (.inr rfl) rfl) hH7 ?_
        try simp only [List.getElem_toArray, List.getElem_cons_succ, List.getElem_cons_zero, Act.put, List.setIfInBounds_toArray, List.set_cons_zero, List.set_cons_succ]
        refine wpAnyH_done (by kernel_rfl) ?_ _
        go_wp2_with fail
        go_meet
        exact ⟨rfl, _, _, _, _, _, _, _, rfl, ka7, r7.anyw rfl rfl rfl, hH7.1⟩
      exact AllReadyH.nil
    refine AllReadyH.cons rfl (fun KK hK => ?_) ?_
    · go_simp
      have hb8 := bal (Below.refl x0.heap.size x0) (.cells #[.int .i64 0, .int .u64 0, .bool false, .int .u64 0, .int .u64 0, .int .u64 0, .int .u64 0, .slice none 0 0, .int .u64 0, .int .u64 0, .int .u64 0, .slice none 0 0, .slice none 0 0] 31)
      have ka8 := Blk.new x0 31 #[.int .i64 0, .int .u64 0, .bool false, .int .u64 0, .int .u64 0, .int .u64 0, .int .u64 0, .slice none 0 0, .int .u64 0, .int .u64 0, .int .u64 0, .slice none 0 0, .slice none 0 0]
      have al8 : ¬ g12 = x0.heap.size := Nat.ne_of_lt hH.2.1.lt
      have aw8 : w.heap.size ≤ x0.heap.size := hH.1.size
      obtain ⟨x8, hx8⟩ : ∃ x, x0.alloc (.cells #[.int .i64 0, .int .u64 0, .bool false, .int .u64 0, .int .u64 0, .int .u64 0, .int .u64 0, .slice none 0 0, .int .u64 0, .int .u64 0, .int .u64 0, .slice none 0 0, .slice none 0 0] 31) = x := ⟨_, rfl⟩
      rw [hx8] at ka8 hb8 ⊢
      refine hK.out _ _ ⟨bnext hH.1 hb8, hH.2.1.below hb8, hH.2.2.below hb8⟩ (fun hH8 => ?_)
      clear hK KK
      try simp only [List.getElem_toArray, List.getElem_cons_succ, List.getElem_cons_zero, Act.put, List.setIfInBounds_toArray, List.set_cons_zero, List.set_cons_succ]
      refine wpAnyH_ready (rs := [1]) (by kernel_rfl) (by simp) ?_
      refine AllReadyH.cons rfl (fun KK hK => ?_) AllReadyH.nil
      go_simp
      refine (grant_any 8 4 _).mono ?_
      rintro e x9 ⟨rfl, hb9⟩
      have ka9 := (ka8).below hb9
      refine hK.out _ _ ⟨bnext hH8.1 hb9, hH8.2.1.below hb9, hH8.2.2.below hb9⟩ (fun hH9 => ?_)
      clear hK KK
      try simp only [List.getElem_toArray, List.getElem_cons_succ, List.getElem_cons_zero, Act.put, List.setIfInBounds_toArray, List.set_cons_zero, List.set_cons_succ]
      refine wpAnyH_ready (rs := [2]) (by kernel_rfl) (by simp) ?_
      refine AllReadyH.cons rfl (fun KK hK => ?_) AllReadyH.nil
      go_simp
      refine (meets_any pr wfP_pr (grt 8 4) (wfF_grt 8 4 (by decide) (by decide)) p3 3 false kn16 kn17 rfl _ _ hH9.2.2.at).mono ?_
      rintro e x10 ⟨V7, rfl, ⟨A7, c7, B7, d7, C7, e7, rfl, R7⟩, hb10⟩
      dsimp only [p3, zSend, zRec, List.length_nil] at R7 ⊢
      have r7 : PrB 0 x10 (.agg #[.int .i64 2, .int .u64 8, .bool true, .int .u64 0, .int .u64 0, .int .u64 0, .int .u64 0, .slice A7 0 c7, .int .u64 0, .int .u64 0, .int .u64 0, .slice B7 0 d7, .slice C7 0 e7]) p3 := PrB.low (B := x9.heap.size) ⟨A7, c7, B7, d7, C7, e7, rfl, R7⟩ (Nat.zero_le _)
      have ka10 := (ka9).below hb10
      refine hK.out _ _ ⟨bnext hH9.1 hb10, hH9.2.1.below hb10, hH9.2.2.below hb10⟩ (fun hH10 => ?_)
      clear hK KK
      try simp only [List.getElem_toArray, List.getElem_cons_succ, List.getElem_cons_zero, Act.put, List.setIfInBounds_toArray, List.set_cons_zero, List.set_cons_succ]
      refine wpAnyH_take (i := 3) rfl (by kernel_rfl) (by kernel_rfl) (by kernel_rfl) (fun _ _ _ h => h) (yieldsIf_pure _ (.tuple #[.agg #[.int .i64 2, .int .u64 8, .bool true, .int .u64 0, .int .u64 0, .int .u64 0, .int .u64 0, .slice A7 0 c7, .int .u64 0, .int .u64 0, .int .u64 0, .slice B7 0 d7, .slice C7 0 e7], .bool true]) rfl (.inl rfl) rfl) hH10 ?_
      try simp only [List.getElem_toArray, List.getElem_cons_succ, List.getElem_cons_zero, Act.put, List.setIfInBounds_toArray, List.set_cons_zero, List.set_cons_succ]
      refine wpAnyH_take (i := 4) rfl (by kernel_rfl) (by kernel_rfl) (by kernel_rfl) (fun _ _ _ h => h) (yieldsIf_cell (.agg #[.int .i64 2, .int .u64 8, .bool true, .int .u64 0, .int .u64 0, .int .u64 0, .int .u64 0, .slice A7 0 c7, .int .u64 0, .int .u64 0, .int .u64 0, .slice B7 0 d7, .slice C7 0 e7]) rfl (fun w h => by go_simp)) hH10 ?_
      try simp only [List.getElem_toArray, List.getElem_cons_succ, List.getElem_cons_zero, Act.put, List.setIfInBounds_toArray, List.set_cons_zero, List.set_cons_succ]
      refine wpAnyH_take (i := 5) rfl (by kernel_rfl) (by kernel_rfl) (by kernel_rfl) (fun _ _ _ h => h) (yieldsIf_cell (.bool true) rfl (fun w h => by go_simp)) hH10 ?_
      try simp only [List.getElem_toArray, List.getElem_cons_succ, List.getElem_cons_zero, Act.put, List.setIfInBounds_toArray, List.set_cons_zero, List.set_cons_succ]
      refine wpAnyH_ready (rs := [7]) (by kernel_rfl) (by simp) ?_
      refine AllReadyH.cons rfl (fun KK hK => ?_) AllReadyH.nil
      rw [if_pos (by rfl)]
      refine wp_store_mid 31 _ _ rfl (x0.heap.size) 0 #[.int .i64 2, .int .u64 8, .bool true, .int .u64 0, .int .u64 0, .int .u64 0, .int .u64 0, .slice A7 0 c7, .int .u64 0, .int .u64 0, .int .u64 0, .slice B7 0 d7, .slice C7 0 e7] rfl rfl (Blk.there ka10 0 _ (Nat.le_refl 13)) (by kernel_rfl) (by kernel_rfl) ?_
      have ka11 : Blk (x10.setCells (x0.heap.size) 0 (Array.toList #[.int .i64 2, .int .u64 8, .bool true, .int .u64 0, .int .u64 0, .int .u64 0, .int .u64 0, .slice A7 0 c7, .int .u64 0, .int .u64 0, .int .u64 0, .slice B7 0 d7, .slice C7 0 e7])) (x0.heap.size) 31 #[.int .i64 2, .int .u64 8, .bool true, .int .u64 0, .int .u64 0, .int .u64 0, .int .u64 0, .slice A7 0 c7, .int .u64 0, .int .u64 0, .int .u64 0, .slice B7 0 d7, .slice C7 0 e7] := (ka10).setAll rfl
      refine hK.out _ _ ⟨below_setCells aw8 _ _ hH10.1, hH10.2.1.farAll al8 _ _, hH10.2.2.anyw rfl rfl rfl⟩ (fun hH11 => ?_)
      clear hK KK
      try simp only [List.getElem_toArray, List.getElem_cons_succ, List.getElem_cons_zero, Act.put, List.setIfInBounds_toArray, List.set_cons_zero, List.set_cons_succ]
      refine wpAnyH_take (i := 8) rfl (by kernel_rfl) (by kernel_rfl) (by kernel_rfl) (fun _ _ _ h => h) (yieldsIf_pure _ (.bool true) rfl (.inr rfl) rfl) hH11 ?_
      try simp only [List.getElem_toArray, List.getElem_cons_succ, List.getElem_cons_zero, Act.put, List.setIfInBounds_toArray, List.set_cons_zero, List.set_cons_succ]
      refine wpAnyH_done (by kernel_rfl) ?_ _
      go_wp2_with fail
      go_meet
      exact ⟨rfl, _, _, _, _, _, _, _, rfl, ka11, r7.anyw rfl rfl rfl, hH11.1⟩
    exact AllReadyH.nil
  case rest =>
  clear k12 rr hB
  obtain ⟨rfl, g13, A7, c7, B7, d7, C7, e7, rfl, k13, r7, hB⟩ := hcut
  generalize wc = y9 at k13 r7 hB ⊢
  have hl13 := k13.lt
  go_wp2_with (first | (refine wpList_ldrow (by rfl) 31 _ (by rfl) g13 (by rfl) 31 #[.int .i64 2, .int .u64 8, .bool true, .int .u64 0, .int .u64 0, .int .u64 0, .int .u64 0, .slice A7 0 c7, .int .u64 0, .int .u64 0, .int .u64 0, .slice B7 0 d7, .slice C7 0 e7] (0, 0) _ k13 Try.underlying31 (by rfl) (by kernel_rfl) ?_))
  refine (held_true p3 (wfP_small 2 8 true 0 (by decide) (by decide)) 0 kn18 kn19 _ _ r7.at).mono ?_
  rintro e v51 ⟨rfl, hb⟩
  replace k13 := k13.below hb
  replace r7 := r7.below hb
  have hB2 := bnext hB hb
  clear hB hb hl13
  have hB := hB2
  clear hB2
  have hl13 := k13.lt
  go_wp2_with (first | (refine wpList_ldrow (by rfl) 31 _ (by rfl) g13 (by rfl) 31 #[.int .i64 2, .int .u64 8, .bool true, .int .u64 0, .int .u64 0, .int .u64 0, .int .u64 0, .slice A7 0 c7, .int .u64 0, .int .u64 0, .int .u64 0, .slice B7 0 d7, .slice C7 0 e7] (0, 0) _ k13 Try.underlying31 (by rfl) (by kernel_rfl) ?_))
  refine (awake_any _).mono ?_
  rintro e v52 ⟨rfl, hb⟩
  replace k13 := k13.below hb
  replace r7 := r7.below hb
  have hB2 := bnext hB hb
  clear hB hb hl13
  have hB := hB2
  clear hB2
  go_wp2_with fail
  go_ret
  exact ⟨rfl, hB⟩
end Go.Proofs.Ytfgkkflbpfocjaa

