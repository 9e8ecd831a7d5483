/- The pair's acts: data, a frame arrives. -/
import Derived.Test.YtfgkkflbpfocjaaZc44
import Derived.Test.YtfgkkflbpfocjaaZc46
namespace Go.Proofs.Ytfgkkflbpfocjaa
open Go.RowKit
open List renaming getElem_toArray → zz1, getElem_cons_succ → zz2, getElem_cons_zero → zz3, setIfInBounds_toArray → zz4, set_cons_zero → zz5, set_cons_succ → zz6
set_option linter.unusedVariables false
set_option linter.unusedSimpArgs false

theorem slRng {w : World} {b o n c k : Nat} {l : List Sl} {x : Sl} (h : SlsAt w (.slice (some ⟨b, o, none⟩) n c) l) (hx : l[k]? = some x) : w.rangeAt b (o + k * 5) [.int .u64 x.off, .int .u64 x.size, .int .i64 x.node, .int .u64 x.seq, .int .i64 x.io] := by
  obtain ⟨b', o', c', e, _, p0, p1, p2, p3, p4⟩ := reads_sl h hx
  cases e
  intro j v hj
  match j, hj with
  | 0, hj => cases hj; exact p0
  | 1, hj => cases hj; exact p1
  | 2, hj => cases hj; exact p2
  | 3, hj => cases hj; exact p3
  | 4, hj => cases hj; exact p4
theorem PX.wayRng {E : Nat → Prop} {w : World} {xb : Nat} {S R : Array Value} {bs br : Int} {p q : Pr} {way : List Fr} {g n c k : Nat} {f : Fr} (h : PX E w xb S R bs br (.slice (some ⟨g, 0, none⟩) n c) p q way) (hf : way[k]? = some f) : w.rangeAt g (k * 19) f.cells := by
  have ho := h.o
  obtain ⟨A, c', e, _⟩ := SlAt.own ho
  cases e
  intro j v hj
  have hj19 : j < 19 := by have := (List.getElem?_eq_some_iff.1 hj).1; rw [fr19] at this; exact this
  rw [own_cell fr19 ho k j hf hj19]
  exact hj
theorem GW.next {i bs br : Int} {xb : Nat} {w : World} (h : GW i bs br xb w) (hi : i < 1000) : GW (i + 1) bs br xb w := by
  obtain ⟨st, su, ss, rt, ru, ro, rr, way, S, R, A, c, hI, h⟩ := h
  exact ⟨st, su, ss, rt, ru, ro, rr, way, S, R, A, c, hI.next hi, h⟩

set_option maxRecDepth 100000 in
set_option maxHeartbeats 16000000 in
theorem act_8 {i st : Int} {su : Bool} {ss : Led} {rt : Int} {ru : Bool} {ro : Int} {rr : Rec} {bs br : Int} {way : List Fr} (hI : Inv i st su ss rt ru ro rr bs br way) (hi : i < 1000) (hWY : WY way) (hwl : way.length ≤ 40) (n ii : Int) (hn : 0 ≤ n ∧ n < 1048576) (hr : n.tmod 12 = 8) (hii : 0 ≤ ii ∧ ii ≤ 1000)
    (xb : Nat) (S R : Array Value) (A : Option Addr) (c : Nat) (w : World) (h : PX NoE w xb S R bs br (.slice A way.length c) (sP st su ss) (rP rt ru ro rr) way) :
    Calls Try.prog 15 #[.pointer (some ⟨xb, 0, none⟩), .int .i64 n, .int .i64 ii] w (ActPost (i + 1) xb w) := by
  obtain ⟨q, hq⟩ : ∃ q, n.tdiv 12 = q := ⟨_, rfl⟩
  have hq0 : 0 ≤ q ∧ q ≤ 87381 := by rw [← hq, Int.tdiv_eq_ediv_of_nonneg hn.1]; omega
  obtain ⟨m, hm⟩ : ∃ m, q.tmod 40 = m := ⟨_, rfl⟩
  have hm0 : 0 ≤ m ∧ m < 40 := by rw [← hm, Int.tmod_eq_emod_of_nonneg hq0.1]; omega
  obtain ⟨As, cs, At, ct, Ak, ck, rfl⟩ := frmS h.s
  have ACTN := Lib.hid (hI.next hi)
  by_cases hls : 0 < ss.sl.length
  · have hlsi : (ss.sl.length : Int) > 0 := by omega
    have hls0 : ¬ (ss.sl.length : Int) = 0 := by omega
    have hnil : ¬ ss.sl = [] := fun e => by rw [e] at hls; exact absurd hls (by decide)
    have WQ : IntKind.i64.wrap q = q := IntWalk.i64_in _ (by omega)
    obtain ⟨k, hk, hkl⟩ : ∃ k : Nat, q.tmod (ss.sl.length : Nat) = (k : Int) ∧ k < ss.sl.length := by
      have a1 := Int.emod_nonneg q (show ((ss.sl.length : Nat) : Int) ≠ 0 by omega)
      have a2 := Int.emod_lt_of_pos q (show (0 : Int) < ((ss.sl.length : Nat) : Int) by omega)
      refine ⟨(q % ((ss.sl.length : Nat) : Int)).toNat, ?_, by omega⟩
      rw [Int.tmod_eq_emod_of_nonneg hq0.1]; omega
    obtain ⟨x, hx⟩ : ∃ x, ss.sl[k]? = some x := ⟨_, List.getElem?_eq_getElem hkl⟩
    have HX := Lib.hid hx
    have hmem := List.mem_of_getElem? hx
    have hki : (k : Int) < ss.sl.length := by omega
    have hk0 : (0 : Int) ≤ k := by omega
    obtain ⟨b0, o0, cc, e7, hbl, _⟩ := reads_sl h.s.rows.1 hx
    cases e7
    have hsz : 0 ≤ x.size ∧ x.size ≤ 1125899906842624 := by
      obtain ⟨z1, z2, z3, _, gd⟩ := (okL_iff ss).1 hI.os
      have a1 := good_off gd (fun x hx => (hI.ws.2.2.2 x hx).2.1.1) hmem
      have a2 := hI.ws.2.2.2 x hmem
      have a3 := hI.ws.2.2.1
      omega
    have WZ : IntKind.i64.wrap x.size = x.size := IntWalk.i64_in _ (by omega)
    have FLR : Hid (∀ v w, SlAt w 5 v ss.sl.length (flat ss.sl) → Calls Try.prog 48 #[.agg #[.int .u64 ss.g, .int .u64 ss.n, .int .u64 ss.r, v]] w (Ret2 .u64 .i64 (flr ss) 0 w)) := Lib.hid (fun v w hS => by
      have q := rFloor_any ss hI.ws v w hS
      have e1 : flE ss = flr ss := by unfold flE; rw [if_pos hI.os]
      have e2 : (chk ss).1 = 0 := hI.os
      rw [e1, e2] at q
      exact q)
    have DATA := Lib.hid (fun (b : Bu.Bn) (hb : Bu.bE b = 0) => (hI.next hi).data_s hmem hb)
    have HTS := Lib.hid hI.ts.1
    have hB : Below xb w w := Below.refl _ _ |>.mono (Nat.le_of_lt h.lt)
    have c7 : w.cell? ⟨xb, 7, none⟩ = some (.slice (some ⟨b0, o0, none⟩) ss.sl.length cs) := h.cS (i := 7) (by decide)
    clear hI hx hmem
    go_enter Try.func15, Try.ntmps15
    go_upto_region 36 with fail
    clear c7
    refine wp_region_held_drew (S := fun wy => Below xb w wy ∧ PX NoE wy xb #[.int .i64 2, .int .u64 st, .bool su, .int .u64 0, .int .u64 ss.g, .int .u64 ss.n, .int .u64 ss.r, .slice (some ⟨b0, o0, none⟩) ss.sl.length cs, .int .u64 0, .int .u64 0, .int .u64 0, .slice At 0 ct, .slice Ak 0 ck] R bs br (.slice A way.length c) (sP st su ss) (rP rt ru ro rr) way) (by kernel_rfl) ⟨hB.drew, h.drew⟩ (fun hH => ?_)
    generalize w.drew = xq36 at hH ⊢
    refine tkH 0 rfl (yieldsIf_pure _ (.pointer (some ⟨xb, 0, none⟩)) rfl (.inl rfl) rfl) hH ?_
    try simp only [zz1, zz2, zz3, Act.put, zz4, zz5, zz6]
    refine tkH 1 rfl (yieldsIf_cell (.pointer (some ⟨xb, 0, none⟩)) rfl (fun w h => rfl)) hH ?_
    try simp only [zz1, zz2, zz3, Act.put, zz4, zz5, zz6]
    refine tkH 2 rfl (yieldsIf_cell (.pointer (some ⟨xb, 0, none⟩)) rfl (fun w h => by go_simp)) hH ?_
    try simp only [zz1, zz2, zz3, Act.put, zz4, zz5, zz6]
    refine tkH 3 rfl (yieldsIf_cell (.pointer (some ⟨xb, 4, none⟩)) rfl (fun w h => by go_simp)) hH ?_
    try simp only [zz1, zz2, zz3, Act.put, zz4, zz5, zz6]
    refine tkH 4 rfl (yieldsIf_cell (.pointer (some ⟨xb, 7, none⟩)) rfl (fun w h => by go_simp)) hH ?_
    try simp only [zz1, zz2, zz3, Act.put, zz4, zz5, zz6]
    refine tkH 5 rfl (yieldsIf_cell (.slice (some ⟨b0, o0, none⟩) ss.sl.length cs) rfl (fun wy h => by have j0 : wy.cell? ⟨xb, 7, none⟩ = some (.slice (some ⟨b0, o0, none⟩) ss.sl.length cs) := h.2.cS (i := 7) (by decide); go_simp)) hH ?_
    try simp only [zz1, zz2, zz3, Act.put, zz4, zz5, zz6]
    refine tkH 6 rfl (yieldsIf_pure _ (.int .i64 n) rfl (.inl rfl) rfl) hH ?_
    try simp only [zz1, zz2, zz3, Act.put, zz4, zz5, zz6]
    refine tkH 7 rfl (yieldsIf_cell (.int .i64 q) rfl (fun w h => by go_simp)) hH ?_
    try simp only [zz1, zz2, zz3, Act.put, zz4, zz5, zz6]
    refine tkH 8 rfl (yieldsIf_pure _ (.pointer (some ⟨xb, 0, none⟩)) rfl (.inl rfl) rfl) hH ?_
    try simp only [zz1, zz2, zz3, Act.put, zz4, zz5, zz6]
    refine tkH 9 rfl (yieldsIf_cell (.pointer (some ⟨xb, 0, none⟩)) rfl (fun w h => rfl)) hH ?_
    try simp only [zz1, zz2, zz3, Act.put, zz4, zz5, zz6]
    refine tkH 10 rfl (yieldsIf_cell (.pointer (some ⟨xb, 0, none⟩)) rfl (fun w h => by go_simp)) hH ?_
    try simp only [zz1, zz2, zz3, Act.put, zz4, zz5, zz6]
    refine tkH 11 rfl (yieldsIf_cell (.pointer (some ⟨xb, 4, none⟩)) rfl (fun w h => by go_simp)) hH ?_
    try simp only [zz1, zz2, zz3, Act.put, zz4, zz5, zz6]
    refine tkH 12 rfl (yieldsIf_cell (.pointer (some ⟨xb, 7, none⟩)) rfl (fun w h => by go_simp)) hH ?_
    try simp only [zz1, zz2, zz3, Act.put, zz4, zz5, zz6]
    refine tkH 13 rfl (yieldsIf_cell (.slice (some ⟨b0, o0, none⟩) ss.sl.length cs) rfl (fun wy h => by have j0 : wy.cell? ⟨xb, 7, none⟩ = some (.slice (some ⟨b0, o0, none⟩) ss.sl.length cs) := h.2.cS (i := 7) (by decide); go_simp)) hH ?_
    try simp only [zz1, zz2, zz3, Act.put, zz4, zz5, zz6]
    refine tkH 14 rfl (yieldsIf_cell (.int .i64 ss.sl.length) rfl (fun w h => by go_simp)) hH ?_
    try simp only [zz1, zz2, zz3, Act.put, zz4, zz5, zz6]
    refine tkH 15 rfl (yieldsIf_cell (.int .i64 k) rfl (fun w h => by go_simp)) hH ?_
    try simp only [zz1, zz2, zz3, Act.put, zz4, zz5, zz6]
    refine tkH 16 rfl (yieldsIf_cell (.pointer (some ⟨b0, o0 + k * 5, none⟩)) rfl (fun w h => by go_simp)) hH ?_
    try simp only [zz1, zz2, zz3, Act.put, zz4, zz5, zz6]
    refine tkH 17 rfl (yieldsIf_load_mid rfl 81 _ rfl b0 (o0 + k * 5) rfl [.int .u64 x.off, .int .u64 x.size, .int .i64 x.node, .int .u64 x.seq, .int .i64 x.io] _ (fun w h => slRng h.2.s.rows.1 HX.out) Try.underlying81 rfl (by kernel_rfl)) hH ?_
    try simp only [zz1, zz2, zz3, Act.put, zz4, zz5, zz6]
    refine rdH [18] ?_
    refine c1H rfl fun KK hK => ?_
    rw [if_pos (by rfl)]
    refine wp_alloc_z 81 (by rfl) _ rfl #[.int .u64 0, .int .u64 0, .int .i64 0, .int .u64 0, .int .i64 0] (fun w => by kernel_rfl) ?_
    have kg37 := Blk.new xq36 81 #[.int .u64 0, .int .u64 0, .int .i64 0, .int .u64 0, .int .i64 0]
    have pe37 := PX.allocE hH.2 (.cells #[.int .u64 0, .int .u64 0, .int .i64 0, .int .u64 0, .int .i64 0] 81)
    have hxg37 : xb ≤ xq36.heap.size := Nat.le_of_lt hH.2.lt
    have hc37 : (fun wy => Below xb w wy ∧ PX NoE wy xb #[.int .i64 2, .int .u64 st, .bool su, .int .u64 0, .int .u64 ss.g, .int .u64 ss.n, .int .u64 ss.r, .slice (some ⟨b0, o0, none⟩) ss.sl.length cs, .int .u64 0, .int .u64 0, .int .u64 0, .slice At 0 ct, .slice Ak 0 ck] R bs br (.slice A way.length c) (sP st su ss) (rP rt ru ro rr) way) (xq36.alloc (.cells #[.int .u64 0, .int .u64 0, .int .i64 0, .int .u64 0, .int .i64 0] 81)) := ⟨hH.1.alloc (Nat.le_of_lt hH.2.lt) _, hH.2.alloc _⟩
    generalize xq36.alloc (.cells #[.int .u64 0, .int .u64 0, .int .i64 0, .int .u64 0, .int .i64 0] 81) = xq37 at hc37 kg37 pe37 ⊢
    generalize xq36.heap.size = gq37 at kg37 pe37 hxg37 ⊢
    refine hK.out _ _ hc37 (fun hH37 => ?_)
    clear hc37
    clear hK KK
    try simp only [zz1, zz2, zz3, Act.put, zz4, zz5, zz6]
    refine rdH [19] ?_
    refine c1H rfl fun KK hK => ?_
    rw [if_pos (by rfl)]
    refine wp_store_mid 81 _ _ rfl gq37 0 #[.int .u64 x.off, .int .u64 x.size, .int .i64 x.node, .int .u64 x.seq, .int .i64 x.io] rfl rfl (Blk.there kg37 0 _ (Nat.le_refl _)) (by kernel_rfl) (by kernel_rfl) ?_
    have kg38 : Blk (xq37.setCells gq37 0 (Array.toList #[.int .u64 x.off, .int .u64 x.size, .int .i64 x.node, .int .u64 x.seq, .int .i64 x.io])) gq37 81 #[.int .u64 x.off, .int .u64 x.size, .int .i64 x.node, .int .u64 x.seq, .int .i64 x.io] := kg37.setAll rfl
    have pe38 := pe37.far rfl (Array.toList #[.int .u64 x.off, .int .u64 x.size, .int .i64 x.node, .int .u64 x.seq, .int .i64 x.io]) 0
    have hc38 : (fun wy => Below xb w wy ∧ PX NoE wy xb #[.int .i64 2, .int .u64 st, .bool su, .int .u64 0, .int .u64 ss.g, .int .u64 ss.n, .int .u64 ss.r, .slice (some ⟨b0, o0, none⟩) ss.sl.length cs, .int .u64 0, .int .u64 0, .int .u64 0, .slice At 0 ct, .slice Ak 0 ck] R bs br (.slice A way.length c) (sP st su ss) (rP rt ru ro rr) way) (xq37.setCells gq37 0 (Array.toList #[.int .u64 x.off, .int .u64 x.size, .int .i64 x.node, .int .u64 x.seq, .int .i64 x.io])) := ⟨below_setCells hxg37 _ _ hH37.1, pe38.noE⟩
    generalize xq37.setCells gq37 0 (Array.toList #[.int .u64 x.off, .int .u64 x.size, .int .i64 x.node, .int .u64 x.seq, .int .i64 x.io]) = xq38 at hc38 kg38 pe38 ⊢
    refine hK.out _ _ hc38 (fun hH38 => ?_)
    clear hc38
    clear hK KK
    try simp only [zz1, zz2, zz3, Act.put, zz4, zz5, zz6]
    refine wpAnyH_done (by kernel_rfl) ?_ _
    have hz := hH38.2
    have hBz := hH38.1
    have kz := kg38
    clear hH38
    generalize gq37 = gq at kz ⊢
    go_wp2_with (refine wpList_load_mid (by rfl) 25 _ (by rfl) xb 4 (by rfl) [.int .u64 ss.g, .int .u64 ss.n, .int .u64 ss.r, .slice (some ⟨b0, o0, none⟩) ss.sl.length cs] _ (hz.rngSp 4 4 _ rfl (by decide)) Try.underlying25 (by rfl) (by kernel_rfl) ?_)
    refine (FLR.out _ _ hz.s.rows.1).mono ?_
    rintro e v3 ⟨rfl, hb⟩
    have h3 := hz.below hb
    have hB3 := hBz.trans (hb.mono (Nat.le_of_lt hz.lt))
    have k3 := kz.below hb
    clear hb hz hBz kz
    generalize flr ss = fv at DATA ⊢
    go_upto_region 38 with fail
    refine wp_region_held_drew (S := fun wy => Below xb w wy ∧ wy.cell? ⟨xb, 26, none⟩ = some (.int .u64 bs) ∧ wy.cell? ⟨xb, 1, none⟩ = some (.int .u64 st)) (by kernel_rfl) ⟨hB3.drew, h3.drew.c26, h3.drew.cS (i := 1) (by decide)⟩ (fun hH => ?_)
    have hx := h3.drew
    have kx := k3.drew
    generalize v3.drew = x0 at hH hx kx ⊢
    clear h3 hB3 k3
    refine tkH 0 rfl (yieldsIf_pure _ (.pointer (some ⟨xb, 0, none⟩)) rfl (.inl rfl) rfl) hH ?_
    try simp only [zz1, zz2, zz3, Act.put, zz4, zz5, zz6]
    refine tkH 1 rfl (yieldsIf_pure _ (.pointer (some ⟨xb, 0, none⟩)) rfl (.inl rfl) rfl) hH ?_
    try simp only [zz1, zz2, zz3, Act.put, zz4, zz5, zz6]
    refine tkH 2 rfl (yieldsIf_cell (.pointer (some ⟨xb, 0, none⟩)) rfl (fun w h => rfl)) hH ?_
    try simp only [zz1, zz2, zz3, Act.put, zz4, zz5, zz6]
    refine tkH 3 rfl (yieldsIf_cell (.pointer (some ⟨xb, 26, none⟩)) rfl (fun w h => by go_simp)) hH ?_
    try simp only [zz1, zz2, zz3, Act.put, zz4, zz5, zz6]
    refine tkH 4 rfl (yieldsIf_cell (.int .u64 bs) rfl (fun wy h => by have j0 := h.2.1; go_simp)) hH ?_
    try simp only [zz1, zz2, zz3, Act.put, zz4, zz5, zz6]
    refine tkH 5 rfl (yieldsIf_pure _ (.pointer (some ⟨xb, 0, none⟩)) rfl (.inl rfl) rfl) hH ?_
    try simp only [zz1, zz2, zz3, Act.put, zz4, zz5, zz6]
    refine tkH 6 rfl (yieldsIf_cell (.pointer (some ⟨xb, 0, none⟩)) rfl (fun w h => rfl)) hH ?_
    try simp only [zz1, zz2, zz3, Act.put, zz4, zz5, zz6]
    refine tkH 7 rfl (yieldsIf_cell (.pointer (some ⟨xb, 0, none⟩)) rfl (fun w h => by go_simp)) hH ?_
    try simp only [zz1, zz2, zz3, Act.put, zz4, zz5, zz6]
    refine tkH 8 rfl (yieldsIf_cell (.pointer (some ⟨xb, 1, none⟩)) rfl (fun w h => by go_simp)) hH ?_
    try simp only [zz1, zz2, zz3, Act.put, zz4, zz5, zz6]
    refine tkH 9 rfl (yieldsIf_cell (.int .u64 st) rfl (fun wy h => by have j0 := h.2.2; go_simp)) hH ?_
    try simp only [zz1, zz2, zz3, Act.put, zz4, zz5, zz6]
    refine tkH 10 rfl (yieldsIf_cell (.pointer (some ⟨gq, 0, none⟩)) rfl (fun w h => by go_simp)) hH ?_
    try simp only [zz1, zz2, zz3, Act.put, zz4, zz5, zz6]
    refine tkH 12 rfl (yieldsIf_pure _ (.int .u64 fv) rfl (.inl rfl) rfl) hH ?_
    try simp only [zz1, zz2, zz3, Act.put, zz4, zz5, zz6]
    refine tkH 13 rfl (yieldsIf_cell (.pointer (some ⟨gq, 1, none⟩)) rfl (fun w h => by go_simp)) hH ?_
    try simp only [zz1, zz2, zz3, Act.put, zz4, zz5, zz6]
    refine rdH [11, 14] ?_
    refine AllReadyH.cons rfl (fun KK hK => ?_) ?_
    · rw [if_pos (by rfl)]
      have j0 := kx.cell 0
      go_simp
      clear j0
      refine hK.out _ _ hH (fun hH101 => ?_)
      clear hK KK
      try simp only [zz1, zz2, zz3, Act.put, zz4, zz5, zz6]
      refine rdH [14] ?_
      refine c1H rfl fun KK hK => ?_
      rw [if_pos (by rfl)]
      have j0 := kx.cell 1
      go_simp
      clear j0
      refine hK.out _ _ hH101 (fun hH102 => ?_)
      clear hK KK
      try simp only [zz1, zz2, zz3, Act.put, zz4, zz5, zz6]
      refine tkH 15 rfl (yieldsIf_cell (.int .i64 x.size) rfl (fun w h => by go_simp)) hH102 ?_
      try simp only [zz1, zz2, zz3, Act.put, zz4, zz5, zz6]
      refine rdH [16] ?_
      refine c1H rfl fun KK hK => ?_
      go_simp
      refine (Bundle_any _ _).mono ?_
      rintro e x103 ⟨b, hbE, rfl, hb103⟩
      rw [Bu.Bn.val_eq]
      have px103 := hx.below hb103
      have kg103 := kx.below hb103
      refine hK.out _ _ ⟨hH102.1.trans (hb103.mono (Nat.le_of_lt hx.lt)), px103.c26, px103.cS (i := 1) (by decide)⟩ (fun hH103 => ?_)
      clear hK KK
      try simp only [zz1, zz2, zz3, Act.put, zz4, zz5, zz6]
      refine tkH 17 rfl (yieldsIf_build _ _ #[(0, .int .i64 3), (1, .int .i64 1), (2, .int .i64 2), (3, .int .u64 bs), (4, .int .u64 st), (5, .int .u64 x.off), (6, .int .u64 fv), (8, .agg #[.int .i64 b.node, .int .u64 b.seq, .int .i64 b.off, .int .i64 b.dest, .int .i64 b.prio, .int .i64 b.born, .int .i64 b.life, .int .i64 b.total, .string b.data])] (.agg #[.int .i64 3, .int .i64 1, .int .i64 2, .int .u64 bs, .int .u64 st, .int .u64 x.off, .int .u64 fv, .int .i64 0, .int .u64 0, .int .i64 0, .int .i64 b.node, .int .u64 b.seq, .int .i64 b.off, .int .i64 b.dest, .int .i64 b.prio, .int .i64 b.born, .int .i64 b.life, .int .i64 b.total, .string b.data]) rfl rfl (by kernel_rfl) (fun w => run_build w _ _ _ (by kernel_rfl))) hH103 ?_
      try simp only [zz1, zz2, zz3, Act.put, zz4, zz5, zz6]
      refine rdH [18] ?_
      refine c1H rfl fun KK hK => ?_
      go_simp
      refine (put_any xb _ _ bs br _ _ _ _ way ⟨3, 1, 2, bs, st, x.off, fv, 0, 0, 0, b⟩ 0 _ (by omega) px103).mono ?_
      rintro e x104 ⟨rfl, hb104, A9, c9, way9, hw9, hp9⟩
      refine hK.out _ _ ⟨hH103.1.trans hb104, hp9.c26, hp9.cS (i := 1) (by decide)⟩ (fun hH104 => ?_)
      clear hK KK
      try simp only [zz1, zz2, zz3, Act.put, zz4, zz5, zz6]
      refine wpAnyH_done (by kernel_rfl) ?_ _
      have HG : GW (i + 1) bs br xb x104 := by
        have hd := DATA.out b hbE
        rcases hw9 with rfl | ⟨_, rfl, hl⟩
        · exact ⟨st, su, ss, rt, ru, ro, rr, _, _, _, A9, c9, ACTN.out, hWY, hwl, hp9⟩
        · exact ⟨st, su, ss, rt, ru, ro, rr, _, _, _, A9, c9, ACTN.out.put hd, hWY.put HTS.out, hl, hp9⟩
      go_wp2_with fail
      refine bodyPost_ret (v := .bool true) (by simp [results, Try.results15, go_sem]) rfl ?_
      exact ⟨rfl, hH104.1, bs, br, HG⟩
    refine AllReadyH.cons rfl (fun KK hK => ?_) ?_
    · rw [if_pos (by rfl)]
      have j0 := kx.cell 1
      go_simp
      clear j0
      refine hK.out _ _ hH (fun hH105 => ?_)
      clear hK KK
      try simp only [zz1, zz2, zz3, Act.put, zz4, zz5, zz6]
      refine tkH 15 rfl (yieldsIf_cell (.int .i64 x.size) rfl (fun w h => by go_simp)) hH105 ?_
      try simp only [zz1, zz2, zz3, Act.put, zz4, zz5, zz6]
      refine rdH [11, 16] ?_
      refine AllReadyH.cons rfl (fun KK hK => ?_) ?_
      · rw [if_pos (by rfl)]
        have j0 := kx.cell 0
        go_simp
        clear j0
        refine hK.out _ _ hH105 (fun hH106 => ?_)
        clear hK KK
        try simp only [zz1, zz2, zz3, Act.put, zz4, zz5, zz6]
        refine rdH [16] ?_
        refine c1H rfl fun KK hK => ?_
        go_simp
        refine (Bundle_any _ _).mono ?_
        rintro e x107 ⟨b, hbE, rfl, hb107⟩
        rw [Bu.Bn.val_eq]
        have px107 := hx.below hb107
        have kg107 := kx.below hb107
        refine hK.out _ _ ⟨hH106.1.trans (hb107.mono (Nat.le_of_lt hx.lt)), px107.c26, px107.cS (i := 1) (by decide)⟩ (fun hH107 => ?_)
        clear hK KK
        try simp only [zz1, zz2, zz3, Act.put, zz4, zz5, zz6]
        refine tkH 17 rfl (yieldsIf_build _ _ #[(0, .int .i64 3), (1, .int .i64 1), (2, .int .i64 2), (3, .int .u64 bs), (4, .int .u64 st), (5, .int .u64 x.off), (6, .int .u64 fv), (8, .agg #[.int .i64 b.node, .int .u64 b.seq, .int .i64 b.off, .int .i64 b.dest, .int .i64 b.prio, .int .i64 b.born, .int .i64 b.life, .int .i64 b.total, .string b.data])] (.agg #[.int .i64 3, .int .i64 1, .int .i64 2, .int .u64 bs, .int .u64 st, .int .u64 x.off, .int .u64 fv, .int .i64 0, .int .u64 0, .int .i64 0, .int .i64 b.node, .int .u64 b.seq, .int .i64 b.off, .int .i64 b.dest, .int .i64 b.prio, .int .i64 b.born, .int .i64 b.life, .int .i64 b.total, .string b.data]) rfl rfl (by kernel_rfl) (fun w => run_build w _ _ _ (by kernel_rfl))) hH107 ?_
        try simp only [zz1, zz2, zz3, Act.put, zz4, zz5, zz6]
        refine rdH [18] ?_
        refine c1H rfl fun KK hK => ?_
        go_simp
        refine (put_any xb _ _ bs br _ _ _ _ way ⟨3, 1, 2, bs, st, x.off, fv, 0, 0, 0, b⟩ 0 _ (by omega) px107).mono ?_
        rintro e x108 ⟨rfl, hb108, A9, c9, way9, hw9, hp9⟩
        refine hK.out _ _ ⟨hH107.1.trans hb108, hp9.c26, hp9.cS (i := 1) (by decide)⟩ (fun hH108 => ?_)
        clear hK KK
        try simp only [zz1, zz2, zz3, Act.put, zz4, zz5, zz6]
        refine wpAnyH_done (by kernel_rfl) ?_ _
        have HG : GW (i + 1) bs br xb x108 := by
          have hd := DATA.out b hbE
          rcases hw9 with rfl | ⟨_, rfl, hl⟩
          · exact ⟨st, su, ss, rt, ru, ro, rr, _, _, _, A9, c9, ACTN.out, hWY, hwl, hp9⟩
          · exact ⟨st, su, ss, rt, ru, ro, rr, _, _, _, A9, c9, ACTN.out.put hd, hWY.put HTS.out, hl, hp9⟩
        go_wp2_with fail
        refine bodyPost_ret (v := .bool true) (by simp [results, Try.results15, go_sem]) rfl ?_
        exact ⟨rfl, hH108.1, bs, br, HG⟩
      refine AllReadyH.cons rfl (fun KK hK => ?_) ?_
      · go_simp
        refine (Bundle_any _ _).mono ?_
        rintro e x109 ⟨b, hbE, rfl, hb109⟩
        rw [Bu.Bn.val_eq]
        have px109 := hx.below hb109
        have kg109 := kx.below hb109
        refine hK.out _ _ ⟨hH105.1.trans (hb109.mono (Nat.le_of_lt hx.lt)), px109.c26, px109.cS (i := 1) (by decide)⟩ (fun hH109 => ?_)
        clear hK KK
        try simp only [zz1, zz2, zz3, Act.put, zz4, zz5, zz6]
        refine rdH [11] ?_
        refine c1H rfl fun KK hK => ?_
        rw [if_pos (by rfl)]
        have j0 := kg109.cell 0
        go_simp
        clear j0
        refine hK.out _ _ hH109 (fun hH110 => ?_)
        clear hK KK
        try simp only [zz1, zz2, zz3, Act.put, zz4, zz5, zz6]
        refine tkH 17 rfl (yieldsIf_build _ _ #[(0, .int .i64 3), (1, .int .i64 1), (2, .int .i64 2), (3, .int .u64 bs), (4, .int .u64 st), (5, .int .u64 x.off), (6, .int .u64 fv), (8, .agg #[.int .i64 b.node, .int .u64 b.seq, .int .i64 b.off, .int .i64 b.dest, .int .i64 b.prio, .int .i64 b.born, .int .i64 b.life, .int .i64 b.total, .string b.data])] (.agg #[.int .i64 3, .int .i64 1, .int .i64 2, .int .u64 bs, .int .u64 st, .int .u64 x.off, .int .u64 fv, .int .i64 0, .int .u64 0, .int .i64 0, .int .i64 b.node, .int .u64 b.seq, .int .i64 b.off, .int .i64 b.dest, .int .i64 b.prio, .int .i64 b.born, .int .i64 b.life, .int .i64 b.total, .string b.data]) rfl rfl (by kernel_rfl) (fun w => run_build w _ _ _ (by kernel_rfl))) hH110 ?_
        try simp only [zz1, zz2, zz3, Act.put, zz4, zz5, zz6]
        refine rdH [18] ?_
        refine c1H rfl fun KK hK => ?_
        go_simp
        refine (put_any xb _ _ bs br _ _ _ _ way ⟨3, 1, 2, bs, st, x.off, fv, 0, 0, 0, b⟩ 0 _ (by omega) px109).mono ?_
        rintro e x111 ⟨rfl, hb111, A9, c9, way9, hw9, hp9⟩
        refine hK.out _ _ ⟨hH110.1.trans hb111, hp9.c26, hp9.cS (i := 1) (by decide)⟩ (fun hH111 => ?_)
        clear hK KK
        try simp only [zz1, zz2, zz3, Act.put, zz4, zz5, zz6]
        refine wpAnyH_done (by kernel_rfl) ?_ _
        have HG : GW (i + 1) bs br xb x111 := by
          have hd := DATA.out b hbE
          rcases hw9 with rfl | ⟨_, rfl, hl⟩
          · exact ⟨st, su, ss, rt, ru, ro, rr, _, _, _, A9, c9, ACTN.out, hWY, hwl, hp9⟩
          · exact ⟨st, su, ss, rt, ru, ro, rr, _, _, _, A9, c9, ACTN.out.put hd, hWY.put HTS.out, hl, hp9⟩
        go_wp2_with fail
        refine bodyPost_ret (v := .bool true) (by simp [results, Try.results15, go_sem]) rfl ?_
        exact ⟨rfl, hH111.1, bs, br, HG⟩
      exact AllReadyH.nil
    exact AllReadyH.nil
  · have hlsi : ¬ (ss.sl.length : Int) > 0 := by omega
    have c7 : w.cell? ⟨xb, 7, none⟩ = some (.slice As ss.sl.length cs) := h.cS (i := 7) (by decide)
    clear hI
    go_enter Try.func15, Try.ntmps15
    go_wp2_with fail
    refine bodyPost_ret (v := .bool true) (by simp [results, Try.results15, go_sem]) rfl ?_
    exact ⟨rfl, (Below.refl _ _ |>.mono (Nat.le_of_lt h.lt)), bs, br, st, su, ss, rt, ru, ro, rr, way, _, _, A, c, ACTN.out, hWY, hwl, h⟩

set_option maxRecDepth 100000 in
set_option maxHeartbeats 16000000 in
theorem act_9 {i st : Int} {su : Bool} {ss : Led} {rt : Int} {ru : Bool} {ro : Int} {rr : Rec} {bs br : Int} {way : List Fr} (hI : Inv i st su ss rt ru ro rr bs br way) (hi : i < 1000) (hWY : WY way) (hwl : way.length ≤ 40) (n ii : Int) (hn : 0 ≤ n ∧ n < 1048576) (hr : 9 ≤ n.tmod 12) (hii : 0 ≤ ii ∧ ii ≤ 1000)
    (xb : Nat) (S R : Array Value) (A : Option Addr) (c : Nat) (w : World) (h : PX NoE w xb S R bs br (.slice A way.length c) (sP st su ss) (rP rt ru ro rr) way) :
    Calls Try.prog 15 #[.pointer (some ⟨xb, 0, none⟩), .int .i64 n, .int .i64 ii] w (ActPost (i + 1) xb w) := by
  obtain ⟨q, hq⟩ : ∃ q, n.tdiv 12 = q := ⟨_, rfl⟩
  have hq0 : 0 ≤ q ∧ q ≤ 87381 := by rw [← hq, Int.tdiv_eq_ediv_of_nonneg hn.1]; omega
  obtain ⟨m, hm⟩ : ∃ m, q.tmod 40 = m := ⟨_, rfl⟩
  have hm0 : 0 ≤ m ∧ m < 40 := by rw [← hm, Int.tmod_eq_emod_of_nonneg hq0.1]; omega
  obtain ⟨r, hrr⟩ : ∃ r, n.tmod 12 = r := ⟨_, rfl⟩
  rw [hrr] at hr
  have e0 : (r == 0) = false := by simp; omega
  have e1 : (r == 1) = false := by simp; omega
  have e2 : (r == 2) = false := by simp; omega
  have e3 : (r == 3) = false := by simp; omega
  have e4 : (r == 4) = false := by simp; omega
  have e5 : (r == 5) = false := by simp; omega
  have e6 : (r == 6) = false := by simp; omega
  have e7 : (r == 7) = false := by simp; omega
  have e8 : (r == 8) = false := by simp; omega
  clear hr
  have c28 := h.c28
  by_cases hwn : 0 < way.length
  · have hwi : (way.length : Int) > 0 := by omega
    have hw0 : ¬ (way.length : Int) = 0 := by omega
    have hnil : ¬ way = [] := fun e => by rw [e] at hwn; exact absurd hwn (by decide)
    have WQ : IntKind.i64.wrap q = q := IntWalk.i64_in _ (by omega)
    obtain ⟨k, hk, hkl⟩ : ∃ k : Nat, q.tmod (way.length : Nat) = (k : Int) ∧ k < way.length := by
      have a1 := Int.emod_nonneg q (show ((way.length : Nat) : Int) ≠ 0 by omega)
      have a2 := Int.emod_lt_of_pos q (show (0 : Int) < ((way.length : Nat) : Int) by omega)
      refine ⟨(q % ((way.length : Nat) : Int)).toNat, ?_, by omega⟩
      rw [Int.tmod_eq_emod_of_nonneg hq0.1]; omega
    obtain ⟨f, hf⟩ : ∃ f, way[k]? = some f := ⟨_, List.getElem?_eq_getElem hkl⟩
    have HF := Lib.hid hf
    have HM := Lib.hid (List.mem_of_getElem? hf)
    have hki : (k : Int) < way.length := by omega
    have hk0 : (0 : Int) ≤ k := by omega
    obtain ⟨g, cc, e, _, _⟩ := World.ownsRow.form h.o hwn
    cases e
    have HI := Lib.hid hI
    have hB : Below xb w w := Below.refl _ _ |>.mono (Nat.le_of_lt h.lt)
    clear hI hf
    go_enter Try.func15, Try.ntmps15
    go_upto_region 4 with fail
    clear c28
    refine wp_region_held_drew (S := fun wy => Below xb w wy) (by kernel_rfl) hB.drew (fun hH => ?_)
    have hx := h.drew
    generalize w.drew = x0 at hH hx ⊢
    clear h hB
    refine tkH 0 rfl (yieldsIf_pure _ (.pointer (some ⟨xb, 0, none⟩)) rfl (.inl rfl) rfl) hH ?_
    try simp only [zz1, zz2, zz3, Act.put, zz4, zz5, zz6]
    refine tkH 1 rfl (yieldsIf_pure _ (.pointer (some ⟨xb, 0, none⟩)) rfl (.inl rfl) rfl) hH ?_
    try simp only [zz1, zz2, zz3, Act.put, zz4, zz5, zz6]
    refine tkH 2 rfl (yieldsIf_cell (.pointer (some ⟨xb, 0, none⟩)) rfl (fun w h => rfl)) hH ?_
    try simp only [zz1, zz2, zz3, Act.put, zz4, zz5, zz6]
    refine tkH 3 rfl (yieldsIf_cell (.pointer (some ⟨xb, 28, none⟩)) rfl (fun w h => by go_simp)) hH ?_
    try simp only [zz1, zz2, zz3, Act.put, zz4, zz5, zz6]
    refine tkH 5 rfl (yieldsIf_pure _ (.int .i64 n) rfl (.inl rfl) rfl) hH ?_
    try simp only [zz1, zz2, zz3, Act.put, zz4, zz5, zz6]
    refine tkH 6 rfl (yieldsIf_cell (.int .i64 q) rfl (fun w h => by go_simp)) hH ?_
    try simp only [zz1, zz2, zz3, Act.put, zz4, zz5, zz6]
    refine tkH 7 rfl (yieldsIf_pure _ (.pointer (some ⟨xb, 0, none⟩)) rfl (.inl rfl) rfl) hH ?_
    try simp only [zz1, zz2, zz3, Act.put, zz4, zz5, zz6]
    refine tkH 8 rfl (yieldsIf_cell (.pointer (some ⟨xb, 0, none⟩)) rfl (fun w h => rfl)) hH ?_
    try simp only [zz1, zz2, zz3, Act.put, zz4, zz5, zz6]
    refine tkH 9 rfl (yieldsIf_cell (.pointer (some ⟨xb, 28, none⟩)) rfl (fun w h => by go_simp)) hH ?_
    try simp only [zz1, zz2, zz3, Act.put, zz4, zz5, zz6]
    refine tkH 15 rfl (yieldsIf_pure _ (.int .u64 (1 + m)) rfl (.inl rfl) rfl) hH ?_
    try simp only [zz1, zz2, zz3, Act.put, zz4, zz5, zz6]
    refine rdH [4, 10] ?_
    refine AllReadyH.cons rfl (fun KK hK => ?_) ?_
    · rw [if_pos (by rfl)]
      have j0 := hx.c28
      go_simp
      clear j0
      refine hK.out _ _ hH (fun hH201 => ?_)
      clear hK KK
      try simp only [zz1, zz2, zz3, Act.put, zz4, zz5, zz6]
      refine rdH [10] ?_
      refine c1H rfl fun KK hK => ?_
      rw [if_pos (by rfl)]
      have j0 := hx.c28
      go_simp
      clear j0
      refine hK.out _ _ hH201 (fun hH202 => ?_)
      clear hK KK
      try simp only [zz1, zz2, zz3, Act.put, zz4, zz5, zz6]
      refine tkH 11 rfl (yieldsIf_cell (.int .i64 way.length) rfl (fun w h => by go_simp)) hH202 ?_
      try simp only [zz1, zz2, zz3, Act.put, zz4, zz5, zz6]
      refine tkH 12 rfl (yieldsIf_cell (.int .i64 k) rfl (fun w h => by go_simp)) hH202 ?_
      try simp only [zz1, zz2, zz3, Act.put, zz4, zz5, zz6]
      refine tkH 13 rfl (yieldsIf_cell (.pointer (some ⟨g, k * 19, none⟩)) rfl (fun w h => by go_simp)) hH202 ?_
      try simp only [zz1, zz2, zz3, Act.put, zz4, zz5, zz6]
      refine rdH [14] ?_
      refine c1H rfl fun KK hK => ?_
      rw [if_pos (by rfl)]
      refine wp_load_mid 51 _ rfl g (k * 19) rfl f.cells _ (hx.wayRng HF.out) Try.underlying51 rfl (by kernel_rfl) ?_
      refine hK.out _ _ hH202 (fun hH203 => ?_)
      clear hK KK
      try simp only [zz1, zz2, zz3, Act.put, zz4, zz5, zz6]
      refine rdH [16] ?_
      refine c1H rfl fun KK hK => ?_
      go_simp
      refine (arrive_any HI.out hWY hwl f HM.out (1 + m) xb _ _ _ _ _ hx).mono ?_
      rintro e x204 ⟨rfl, hb204, bs9, br9, hG9⟩
      refine hK.out _ _ (hH203.trans hb204) (fun hH204 => ?_)
      clear hK KK
      try simp only [zz1, zz2, zz3, Act.put, zz4, zz5, zz6]
      refine tkH 17 rfl (yieldsIf_pure _ (.bool true) rfl (.inr rfl) rfl) hH204 ?_
      try simp only [zz1, zz2, zz3, Act.put, zz4, zz5, zz6]
      refine wpAnyH_done (by kernel_rfl) ?_ _
      go_wp2_with fail
      refine bodyPost_ret (v := .bool true) (by simp [results, Try.results15, go_sem]) rfl ?_
      exact ⟨rfl, hH204, bs9, br9, hG9.next hi⟩
    refine AllReadyH.cons rfl (fun KK hK => ?_) ?_
    · rw [if_pos (by rfl)]
      have j0 := hx.c28
      go_simp
      clear j0
      refine hK.out _ _ hH (fun hH205 => ?_)
      clear hK KK
      try simp only [zz1, zz2, zz3, Act.put, zz4, zz5, zz6]
      refine tkH 11 rfl (yieldsIf_cell (.int .i64 way.length) rfl (fun w h => by go_simp)) hH205 ?_
      try simp only [zz1, zz2, zz3, Act.put, zz4, zz5, zz6]
      refine tkH 12 rfl (yieldsIf_cell (.int .i64 k) rfl (fun w h => by go_simp)) hH205 ?_
      try simp only [zz1, zz2, zz3, Act.put, zz4, zz5, zz6]
      refine rdH [4] ?_
      refine c1H rfl fun KK hK => ?_
      rw [if_pos (by rfl)]
      have j0 := hx.c28
      go_simp
      clear j0
      refine hK.out _ _ hH205 (fun hH206 => ?_)
      clear hK KK
      try simp only [zz1, zz2, zz3, Act.put, zz4, zz5, zz6]
      refine tkH 13 rfl (yieldsIf_cell (.pointer (some ⟨g, k * 19, none⟩)) rfl (fun w h => by go_simp)) hH206 ?_
      try simp only [zz1, zz2, zz3, Act.put, zz4, zz5, zz6]
      refine rdH [14] ?_
      refine c1H rfl fun KK hK => ?_
      rw [if_pos (by rfl)]
      refine wp_load_mid 51 _ rfl g (k * 19) rfl f.cells _ (hx.wayRng HF.out) Try.underlying51 rfl (by kernel_rfl) ?_
      refine hK.out _ _ hH206 (fun hH207 => ?_)
      clear hK KK
      try simp only [zz1, zz2, zz3, Act.put, zz4, zz5, zz6]
      refine rdH [16] ?_
      refine c1H rfl fun KK hK => ?_
      go_simp
      refine (arrive_any HI.out hWY hwl f HM.out (1 + m) xb _ _ _ _ _ hx).mono ?_
      rintro e x208 ⟨rfl, hb208, bs9, br9, hG9⟩
      refine hK.out _ _ (hH207.trans hb208) (fun hH208 => ?_)
      clear hK KK
      try simp only [zz1, zz2, zz3, Act.put, zz4, zz5, zz6]
      refine tkH 17 rfl (yieldsIf_pure _ (.bool true) rfl (.inr rfl) rfl) hH208 ?_
      try simp only [zz1, zz2, zz3, Act.put, zz4, zz5, zz6]
      refine wpAnyH_done (by kernel_rfl) ?_ _
      go_wp2_with fail
      refine bodyPost_ret (v := .bool true) (by simp [results, Try.results15, go_sem]) rfl ?_
      exact ⟨rfl, hH208, bs9, br9, hG9.next hi⟩
    exact AllReadyH.nil
  · have hwi : ¬ (way.length : Int) > 0 := by omega
    have HI := Lib.hid (hI.next hi)
    clear hI
    go_enter Try.func15, Try.ntmps15
    go_wp2_with fail
    refine bodyPost_ret (v := .bool true) (by simp [results, Try.results15, go_sem]) rfl ?_
    exact ⟨rfl, (Below.refl _ _ |>.mono (Nat.le_of_lt h.lt)), bs, br, st, su, ss, rt, ru, ro, rr, way, _, _, A, c, HI.out, hWY, hwl, h⟩

end Go.Proofs.Ytfgkkflbpfocjaa

