/- Contract: the next want of a priority. -/
import Derived.Test.YthkfdfkjenhjmaaL
import Derived.Test.YthkfdfkjenhjmaaK
import Derived.Test.YthkfdfkjenhjmaaChan
namespace Go.Proofs.Ythkfdfkjenhjmaa
open Go.RowKit Go.Conc
set_option linter.unusedVariables false
set_option linter.unusedSimpArgs false

/-- the numbers that wait in a channel -/
def qv (q : List Nat) : Array Value := (q.map fun (i : Nat) => Value.int .i64 i).toArray
theorem qv_size (q : List Nat) : (qv q).size = q.length := by simp [qv]
def WtAt (w : World) (v : Value) (l : List Wt) : Prop := SlAt w 2 v l.length (fl Wt.cells l)
def chs (C : Nat → Nat) : Array Value := #[.chan (some (C 0)), .chan (some (C 1)), .chan (some (C 2))]
theorem chs_cell {w : World} {g : Nat} {t : TypeId} {C : Nat → Nat} (h : Blk w g t (chs C)) (p : Nat) (hp : p < 3) : w.cell? ⟨g, p, none⟩ = some (.chan (some (C p))) := by
  rw [h.cell]
  match p, hp with
  | 0, _ => rfl
  | 1, _ => rfl
  | 2, _ => rfl
def ChanAt (w : World) (c cap : Nat) (q : List Nat) : Prop := ∃ s r, w.heap[c]? = some (.chan cap (qv q) false s r false)
def fst1 : List Nat → Int
  | [] => -1
  | i :: _ => i
theorem arr3_set {w : World} {g : Nat} {t : TypeId} {H : List Int} (h : Blk w g t (ints H).toArray) (h3 : H.length = 3) (p : Nat) (hp : p < 3) (x : Int) : Blk (w.setCell ⟨g, p, none⟩ (.int .i64 x)) g t (ints (H.set p x)).toArray := by
  have := h.set p (.int .i64 x)
  have e : ((ints H).toArray.setIfInBounds p (.int .i64 x)) = (ints (H.set p x)).toArray := by
    rw [← ints_map, ← ints_map]
    simp [List.map_set]
  rw [e] at this
  exact this

set_option maxRecDepth 100000 in
set_option maxHeartbeats 8000000 in
theorem step_any (l : List Wt) (hl : l.length ≤ 100000) (w0 w : World) (v : Value) (hV : WtAt w0 v l) (hB0 : Below w0.heap.size w0 w) (p : Nat) (hp : p < 3) (gF gH gL gl : Nat) (C : Nat → Nat) (F H : List Int) (hF3 : F.length = 3) (hH3 : H.length = 3) (q : List Nat) (cap : Nat)
    (hq : ∀ i ∈ q, i < l.length) (hF : Blk w gF 65 (ints F).toArray) (hH : Blk w gH 65 (ints H).toArray) (hL : Blk w gL 70 (chs C)) (hl0 : w.cell? ⟨gl, 0, none⟩ = some v) (hgl : gl < w.heap.size) (hc : ChanAt w (C p) cap q)
    (n1 : gF ≠ gH) (n2 : gF ≠ gL) (n3 : gH ≠ gL) (n4 : gF ≠ C p) (n5 : gH ≠ C p) (n6 : gL ≠ C p) (n7 : gl ≠ gF) (n8 : gl ≠ gH) (n9 : gl ≠ C p) (b1 : w0.heap.size ≤ gF) (b2 : w0.heap.size ≤ gH) (b3 : w0.heap.size ≤ C p) :
    Calls Try.prog 44 #[.int .i64 p, .pointer (some ⟨gF, 0, none⟩), .pointer (some ⟨gH, 0, none⟩), .pointer (some ⟨gL, 0, none⟩), .pointer (some ⟨gl, 0, none⟩)] w (fun e w' => (∃ x, e = .returned x) ∧
      Blk w' gF 65 (ints (F.set p (fst1 q))).toArray ∧ Blk w' gH 65 (ints (H.set p (hsz l q))).toArray ∧ ChanAt w' (C p) cap q.tail ∧ Only (fun k => k = gF ∨ k = gH ∨ k = C p) w w') := by
  obtain ⟨s, r, hch⟩ := hc
  have eL := chs_cell hL p hp
  have fF := hF.frozen p
  have fH := hH.frozen p
  have eF := arr3 hF hF3 p hp
  have eH := arr3 hH hH3 p hp
  have hp3 : (p : Int) < 3 := by omega
  have hp0 : (0 : Int) ≤ p := by omega
  have KF := Lib.hid (arr3_set hF hF3 p hp (-1))
  have hF2 := (arr3_set hF hF3 p hp (-1)).far (p := ⟨gH, p, none⟩) n1 (.int .i64 0)
  have hH2 := arr3_set (hH.far (p := ⟨gF, p, none⟩) n1.symm (.int .i64 (-1))) hH3 p hp 0
  have hL2 := (hL.far (p := ⟨gF, p, none⟩) n2.symm (.int .i64 (-1))).far (p := ⟨gH, p, none⟩) n3.symm (.int .i64 0)
  have hc2 := heap_far (heap_far hch (p := ⟨gF, p, none⟩) n4.symm (.int .i64 (-1))) (p := ⟨gH, p, none⟩) n5.symm (.int .i64 0)
  have hO2 : Only (fun k => k = gF ∨ k = gH ∨ k = C p) w ((w.setCell ⟨gF, p, none⟩ (.int .i64 (-1))).setCell ⟨gH, p, none⟩ (.int .i64 0)) := ((Only.refl _ _).set (.inl (.inl rfl)) _).set (.inl (.inr (.inl rfl))) _
  have HF2 := Lib.hid hF2
  have HH2 := Lib.hid hH2
  have HL2 := Lib.hid hL2
  have HC2 := Lib.hid hc2
  have HO2 := Lib.hid hO2
  have HV := Lib.hid hV
  have HQ := Lib.hid hq
  have HF3 := Lib.hid hF3
  have HH3 := Lib.hid hH3
  clear hF2 hH2 hL2 hc2 hO2 hF hH hL hch hV hq hF3 hH3 KF
  go_enter Try.func44, Try.ntmps44
  go_upto_region 1 with fail
  generalize (w.setCell ⟨gF, p, none⟩ (.int .i64 (-1))).setCell ⟨gH, p, none⟩ (.int .i64 0) = w1 at HF2 HH2 HL2 HC2 HO2 ⊢
  clear eL fF fH eF eH
  have eL := chs_cell HL2.out p hp
  have hlen := fun ty => run_len_chan (P := Try.prog) 69 ty Try.underlying69 HC2.out
  rw [qv_size] at hlen
  cases q with
  | nil =>
    go_wp2_with fail
    go_end0
    exact ⟨⟨_, rfl⟩, HF2.out, HH2.out, ⟨s, r, HC2.out⟩, HO2.out⟩
  | cons i q =>
    have hil : i < l.length := HQ.out i List.mem_cons_self
    obtain ⟨x, hx⟩ : ∃ x, l[i]? = some x := ⟨_, List.getElem?_eq_getElem hil⟩
    have HX : Hid (wtAt l i = x) := Lib.hid (by unfold wtAt; rw [List.getD_eq_getElem?_getD, hx]; rfl)
    have hbuf : (qv (i :: q)).getD 0 undef = .int .i64 i := by simp [qv]
    have htl : (qv (i :: q)).extract 1 (qv (i :: q)).size = qv q := by simp [qv, List.take_of_length_le]
    go_upto_region 2 with fail
    refine wp_region_drop 5 _ _ (by decide) (opsTo_op (.int .i64 p) w1 rfl rfl (fun K hK => ?_) <| opsTo_op (.int .i64 p) w1 rfl rfl (fun K hK => ?_) <| opsTo_op (.pointer (some ⟨gL, p, none⟩)) w1 rfl rfl (fun K hK => ?_) <| opsTo_op (.chan (some (C p))) w1 rfl rfl (fun K hK => ?_) <| opsTo_recv (z := .int .i64 0) rfl rfl ?_ HC2.out (by rw [qv_size]; simp) <| OpsTo.refl) ?_
    · go_simp
      exact hK
    · go_simp
      exact hK
    · go_simp
      exact hK
    · go_simp
      exact hK
    · simp [go_sem, rcase]
    rw [hbuf, htl]
    have hcl : C p < w1.heap.size := (Array.getElem?_eq_some_iff.1 HC2.out).1
    have kF := HF2.out.setChan n4 cap (qv q) false s (r + 1) false
    have kH := HH2.out.setChan n5 cap (qv q) false s (r + 1) false
    have kC := heap_setChan_eq hcl cap (qv q) false s (r + 1) false
    have kO := only_setChan (c := C p) HO2.out (.inl (.inr (.inr rfl))) cap (qv q) false s (r + 1) false
    generalize w1.setChan (C p) cap (qv q) false s (r + 1) false = w2 at kF kH kC kO ⊢
    simp only [List.drop_succ_cons, List.drop_zero, Act.put, List.setIfInBounds_toArray, List.set_cons_zero, List.set_cons_succ]
    clear eL hlen hbuf htl hcl hx HC2 HF2 HH2 HO2 HL2
    have eF := arr3 kF (by rw [List.length_set]; exact HF3.out) p hp
    have fF := kF.frozen p
    have KF := Lib.hid kF
    have KH := Lib.hid kH
    have KC := Lib.hid kC
    have KO := Lib.hid kO
    clear kF kH kC kO
    go_wp2_with fail
    go_upto_region 3 with fail
    have kF : Blk (w2.setCell ⟨gF, p, none⟩ (.int .i64 (i : Int))) gF 65 (ints (F.set p (i : Int))).toArray := by
      have := arr3_set KF.out (by rw [List.length_set]; exact HF3.out) p hp (i : Int)
      rwa [List.set_set] at this
    have kH := KH.out.far (p := ⟨gF, p, none⟩) n1.symm (.int .i64 (i : Int))
    have kC := heap_far KC.out (p := ⟨gF, p, none⟩) n4.symm (.int .i64 (i : Int))
    have kO := KO.out.set (p := ⟨gF, p, none⟩) (.inl (.inl rfl)) (.int .i64 (i : Int))
    generalize w2.setCell ⟨gF, p, none⟩ (.int .i64 (i : Int)) = w3 at kF kH kC kO ⊢
    clear eF fF KF KH KC KO
    have hBw : Below w0.heap.size w0 w3 := hB0.trans (kO.to_below (fun k e => by rcases e with rfl | rfl | rfl <;> omega) hB0.size)
    obtain ⟨A, c, rfl, _, hc2, hR⟩ := HV.out.below hBw
    obtain ⟨b, o, rfl, hb, d0, d1⟩ := reads_fl2 wt2 hR rfl (by rw [List.getElem?_eq_getElem hil]) rfl
    have e1 : (l[i]).s = x.s := by
      have := HX.out
      unfold wtAt at this
      rw [List.getD_eq_getElem?_getD, List.getElem?_eq_getElem hil] at this
      simp at this
      rw [this]
    have eF := arr3 kF (by rw [List.length_set]; exact HF3.out) p hp
    have ei : at0 (F.set p (i : Int)) p = i := by rw [at0_set (by rw [HF3.out]; exact hp), if_pos rfl]
    rw [ei] at eF
    rw [e1] at d1
    have hlv : w3.cell? ⟨gl, 0, none⟩ = some (.slice (some ⟨b, o, none⟩) l.length c) := (kO.cell hgl (by rintro (h | h | h); exact n7 h; exact n8 h; exact n9 h) 0).trans hl0
    have eH := arr3 kH (by rw [List.length_set]; exact HH3.out) p hp
    have fH := kH.frozen p
    have hi1 : (i : Int) < l.length := by omega
    have hi0 : (0 : Int) ≤ i := by omega
    have KF := Lib.hid kF
    have KH := Lib.hid kH
    have KC := Lib.hid kC
    have KO := Lib.hid kO
    clear kF kH kC kO ei e1 d0 hR hl0 hBw
    go_still_tail 9, (by kernel_rfl)
    change wpList _ _ _ _ _ w3.drew
    clear eF hlv d1 eH fH
    have kF := KF.out.drew
    have kH := KH.out.drew
    have kC : w3.drew.heap[C p]? = some (.chan cap (qv q) false s (r + 1) false) := KC.out
    have kO := KO.out.drew
    generalize w3.drew = w4 at kF kH kC kO ⊢
    have eH := arr3 kH (by rw [List.length_set]; exact HH3.out) p hp
    have fH := kH.frozen p
    have KF := Lib.hid kF
    have KH := Lib.hid kH
    have KC := Lib.hid kC
    have KO := Lib.hid kO
    clear kF kH kC kO
    go_wp2_with fail
    go_end0
    refine ⟨⟨_, rfl⟩, KF.out.far (p := ⟨gH, p, none⟩) n1 _, ?_, ⟨s, r + 1, heap_far KC.out (p := ⟨gH, p, none⟩) n5.symm _⟩, KO.out.set (.inl (.inr (.inl rfl))) _⟩
    have := arr3_set KH.out (by rw [List.length_set]; exact HH3.out) p hp x.s
    rw [List.set_set] at this
    rw [show hsz l (i :: q) = x.s by show (wtAt l i).s = x.s; rw [HX.out]]
    exact this
end Go.Proofs.Ythkfdfkjenhjmaa
