/- Contract: the check of a ledger. -/
import Derived.Test.YtfgkkflbpfocjaaZc2
namespace Go.Proofs.Ytfgkkflbpfocjaa
open Go.RowKit
set_option linter.unusedVariables false
set_option linter.unusedSimpArgs false

def Ret2 (k1 k2 : IntKind) (a b : Int) (w : World) (e : Ending) (w' : World) : Prop := e = .returned (.tuple #[.int k1 a, .int k2 b]) ∧ Below w.heap.size w w'

theorem rule1 (b : Nat) (g : Int) (w : World) (c0 : w.cell? ⟨b, 0, none⟩ = some (.int .u64 g)) :
    Calls Try.prog 99 #[.pointer (some ⟨b, 0, none⟩)] w fun e w' => e = .returned (.bool (decide (g ≤ 1125899906842624))) ∧ w = w' := by
  go_enter Try.func99, Try.ntmps99
  go_wp2
  go_ret
  exact ⟨rfl, rfl⟩
theorem rule2_t (b : Nat) (g n r : Int) (w : World) (c0 : w.cell? ⟨b, 0, none⟩ = some (.int .u64 g)) (c1 : w.cell? ⟨b, 1, none⟩ = some (.int .u64 n)) (c2 : w.cell? ⟨b, 2, none⟩ = some (.int .u64 r))
    (hg : g ≤ 18446744073709551615) (hr : 0 ≤ r) (h1 : r ≤ g) (h2 : n ≤ g - r) :
    Calls Try.prog 100 #[.pointer (some ⟨b, 0, none⟩)] w fun e w' => e = .returned (.bool true) ∧ w = w' := by
  go_enter Try.func100, Try.ntmps100
  go_wp2
  go_ret
  exact ⟨rfl, rfl⟩
theorem rule2_f (b : Nat) (g n r : Int) (w : World) (c0 : w.cell? ⟨b, 0, none⟩ = some (.int .u64 g)) (c1 : w.cell? ⟨b, 1, none⟩ = some (.int .u64 n)) (c2 : w.cell? ⟨b, 2, none⟩ = some (.int .u64 r))
    (hg : g ≤ 18446744073709551615) (hr : 0 ≤ r) (h1 : g < r ∨ g - r < n) :
    Calls Try.prog 100 #[.pointer (some ⟨b, 0, none⟩)] w fun e w' => e = .returned (.bool false) ∧ w = w' := by
  by_cases h : g < r
  · clear h1
    have hd : decide (r ≤ g) = false := by simp; omega
    go_enter Try.func100, Try.ntmps100
    go_wp2
    go_ret
    exact ⟨rfl, rfl⟩
  · have h2 : g - r < n := by omega
    clear h1
    have hd : decide (n ≤ g - r) = false := by simp; omega
    have hd' : decide (r ≤ g) = true := by simp; omega
    go_enter Try.func100, Try.ntmps100
    go_wp2
    go_ret
    exact ⟨rfl, rfl⟩
theorem rule3 (b : Nat) (A : Option Addr) (n c : Nat) (w : World) (c0 : w.cell? ⟨b, 3, none⟩ = some (.slice A n c)) :
    Calls Try.prog 101 #[.pointer (some ⟨b, 0, none⟩)] w fun e w' => e = .returned (.bool (decide ((n : Int) ≤ 100))) ∧ w = w' := by
  go_enter Try.func101, Try.ntmps101
  go_wp2
  go_ret
  exact ⟨rfl, rfl⟩

theorem slAt_take {w : World} {A : Option Addr} {n c : Nat} {l : List Sl} (h : SlAt w 5 (.slice A n c) n (flat l)) (hn : n = l.length) {k : Nat} (hk : k ≤ n) : SlAt w 5 (.slice A k c) (l.take k).length (flat (l.take k)) := by
  obtain ⟨A', c', e, h1, h2, h3, h4⟩ := h
  cases e
  have hl : (l.take k).length = k := by rw [List.length_take]; omega
  refine ⟨A, c, by rw [hl], by omega, h2, flat_len _, fun hp => ?_⟩
  obtain ⟨b, o, rfl, hb, hc⟩ := h4 (by omega)
  refine ⟨b, o, rfl, hb, fun j u hj => hc j u ?_⟩
  have hf : flat l = flat (l.take k) ++ flat (l.drop k) := by
    conv => lhs; rw [← List.take_append_drop k l]
    simp only [flat, List.flatMap_append]
  rw [hf, List.getElem?_append_left (by
    have := (List.getElem?_eq_some_iff.1 hj).1
    exact this)]
  exact hj
theorem idx_neg {n s o : Int} {l : List Sl} (h : anyHas n s o l = false) : idx n s o l < 0 := by
  have := fnd_lt n s o l
  unfold idx
  rw [if_neg (by rw [this, h]; simp)]
  omega
theorem idx_pos {n s o : Int} {l : List Sl} (h : anyHas n s o l = true) : 0 ≤ idx n s o l := by
  have := fnd_lt n s o l
  unfold idx
  rw [if_pos (this.2 h)]
  omega
theorem scan_cons {n E : Int} {l : List Sl} {k : Nat} {x : Sl} (h : l[k]? = some x) :
    scan n (l.take k) E (l.drop k) = if slotE n (l.take k) E x = 0 then scan n (l.take (k + 1)) (x.off + x.size) (l.drop (k + 1)) else (slotE n (l.take k) E x, (k : Int)) := by
  obtain ⟨hk, rfl⟩ := List.getElem?_eq_some_iff.1 h
  rw [List.drop_eq_getElem_cons hk, scan, List.take_succ_eq_append_getElem hk, List.length_take, Nat.min_eq_left (by omega)]

set_option maxRecDepth 100000 in
set_option maxHeartbeats 4000000 in
theorem Check_any (s : Led) (hw : Wf s) (v : Value) (w : World) (hS : SlAt w 5 v s.sl.length (flat s.sl)) :
    Calls Try.prog 60 #[.agg #[.int .u64 s.g, .int .u64 s.n, .int .u64 s.r, v]] w (Ret2 .i64 .i64 (chk s).1 (chk s).2 w) := by
  obtain ⟨g, n, r, l⟩ := s
  obtain ⟨⟨hg0, hg1⟩, ⟨hn0, hn1⟩, ⟨hr0, hr1⟩, hl⟩ := hw
  have HL := Lib.hid hl
  clear hl
  have hS' := hS
  obtain ⟨A, c, rfl, hc1, hc2, _⟩ := hS'
  have HS := Lib.hid hS
  clear hS
  unfold maxLen at hc2
  dsimp only at *
  go_enter Try.func60, Try.ntmps60
  go_wp2_with fail
  obtain ⟨W0, hW0⟩ : ∃ W0, (w.alloc (.cells #[.int .u64 g, .int .u64 n, .int .u64 r, .slice A l.length c] 25)).alloc (.cells #[.int .i64 2, .func (.func 99) #[] #[.pointer (some ⟨w.heap.size, 0, none⟩)], .int .i64 14, .func (.func 100) #[] #[.pointer (some ⟨w.heap.size, 0, none⟩)], .int .i64 5, .func (.func 101) #[] #[.pointer (some ⟨w.heap.size, 0, none⟩)]] 141) = W0 := ⟨_, rfl⟩
  have hB0 : Below w.heap.size w W0 := by rw [← hW0]; exact bal (bal (Below.refl _ _) _) _
  have hz0 : w.heap.size + 1 < W0.heap.size := by rw [← hW0]; simp
  have HS0 : Hid (SlAt W0 5 (.slice A l.length c) l.length (flat l)) := Lib.hid (HS.out.below hB0)
  have s0 : W0.cell? ⟨w.heap.size, 0, none⟩ = some (.int .u64 g) := by rw [← hW0, oldcell _ (by simp), newcell]; rfl
  have s1 : W0.cell? ⟨w.heap.size, 1, none⟩ = some (.int .u64 n) := by rw [← hW0, oldcell _ (by simp), newcell]; rfl
  have s2 : W0.cell? ⟨w.heap.size, 2, none⟩ = some (.int .u64 r) := by rw [← hW0, oldcell _ (by simp), newcell]; rfl
  have s3 : W0.cell? ⟨w.heap.size, 3, none⟩ = some (.slice A l.length c) := by rw [← hW0, oldcell _ (by simp), newcell]; rfl
  have r0 : W0.cell? ⟨w.heap.size + 1, 0, none⟩ = some (.int .i64 2) := by rw [← hW0, newcell1]; rfl
  have r1 : W0.cell? ⟨w.heap.size + 1, 1, none⟩ = some (.func (.func 99) #[] #[.pointer (some ⟨w.heap.size, 0, none⟩)]) := by rw [← hW0, newcell1]; rfl
  have r2 : W0.cell? ⟨w.heap.size + 1, 2, none⟩ = some (.int .i64 14) := by rw [← hW0, newcell1]; rfl
  have r3 : W0.cell? ⟨w.heap.size + 1, 3, none⟩ = some (.func (.func 100) #[] #[.pointer (some ⟨w.heap.size, 0, none⟩)]) := by rw [← hW0, newcell1]; rfl
  have r4 : W0.cell? ⟨w.heap.size + 1, 4, none⟩ = some (.int .i64 5) := by rw [← hW0, newcell1]; rfl
  have r5 : W0.cell? ⟨w.heap.size + 1, 5, none⟩ = some (.func (.func 101) #[] #[.pointer (some ⟨w.heap.size, 0, none⟩)]) := by rw [← hW0, newcell1]; rfl
  rw [hW0]
  clear hW0 HS
  go_loopw [17] (fun a wr => ∃ i : Nat, i ≤ 3 ∧ a = .int .i64 i ∧ (1 ≤ i → g ≤ 1125899906842624) ∧ (2 ≤ i → r ≤ g ∧ n ≤ g - r) ∧ (3 ≤ i → l.length ≤ 100) ∧ Below W0.heap.size W0 wr) (fun a _ => 3 - (intOf a).toNat)
  case atStart => exact ⟨0, by omega, rfl, fun h => by omega, fun h => by omega, fun h => by omega, Below.refl _ _⟩
  case round =>
    obtain ⟨i, hi, rfl, h1, h2, h3, hB⟩ := hrel
    have hz := hB.size
    have q0 := (hB.cell (p := ⟨w.heap.size, 0, none⟩) (by show w.heap.size < _; omega)).trans s0
    have q1 := (hB.cell (p := ⟨w.heap.size, 1, none⟩) (by show w.heap.size < _; omega)).trans s1
    have q2 := (hB.cell (p := ⟨w.heap.size, 2, none⟩) (by show w.heap.size < _; omega)).trans s2
    have q3 := (hB.cell (p := ⟨w.heap.size, 3, none⟩) (by show w.heap.size < _; omega)).trans s3
    have t0 := (hB.cell (p := ⟨w.heap.size + 1, 0, none⟩) hz0).trans r0
    have t1 := (hB.cell (p := ⟨w.heap.size + 1, 1, none⟩) hz0).trans r1
    have t2 := (hB.cell (p := ⟨w.heap.size + 1, 2, none⟩) hz0).trans r2
    have t3 := (hB.cell (p := ⟨w.heap.size + 1, 3, none⟩) hz0).trans r3
    have t4 := (hB.cell (p := ⟨w.heap.size + 1, 4, none⟩) hz0).trans r4
    have t5 := (hB.cell (p := ⟨w.heap.size + 1, 5, none⟩) hz0).trans r5
    have HSr : Hid (SlAt wr 5 (.slice A l.length c) l.length (flat l)) := Lib.hid (HS0.out.below hB)
    have hBw : Below w.heap.size w wr := bnext hB0 hB
    clear s0 s1 s2 s3 r0 r1 r2 r3 r4 r5 HS0
    have H1 := Lib.hid h1
    have H2 := Lib.hid h2
    have H3 := Lib.hid h3
    clear h1 h2 h3
    have hzw : w.heap.size < wr.heap.size := by omega
    by_cases e0 : i = 0
    · subst e0
      go_wp2_with fail
      refine (rule1 w.heap.size g _ ((oldcell _ hzw 0).trans q0)).mono ?_
      rintro e w' ⟨rfl, rfl⟩
      by_cases hg : g ≤ 1125899906842624
      · have D : Hid (decide (g ≤ 1125899906842624) = true) := by show decide _ = true; simpa using hg
        rw [D.out]
        go_wp2_with fail
        go_roundw
        case rel => exact ⟨1, by omega, rfl, fun _ => hg, fun h => by omega, fun h => by omega, bal hB _⟩
        case measure => simp [intOf]
      · have D : Hid (decide (g ≤ 1125899906842624) = false) := by show decide _ = false; simpa using hg
        rw [D.out]
        have R : Hid (chk ⟨g, n, r, l⟩ = (2, 0)) := if_pos (by show 1125899906842624 < g; omega)
        go_wp2_with fail
        go_ret2
        exact ⟨by rw [R.out]; rfl, bal hBw _⟩
    · by_cases e1 : i = 1
      · subst e1
        by_cases hr : r ≤ g ∧ n ≤ g - r
        · go_wp2_with fail
          refine (rule2_t w.heap.size g n r _ ((oldcell _ hzw 0).trans q0) ((oldcell _ hzw 1).trans q1) ((oldcell _ hzw 2).trans q2) hg1 hr0 hr.1 hr.2).mono ?_
          rintro e w' ⟨rfl, rfl⟩
          go_wp2_with fail
          go_roundw
          case rel => exact ⟨2, by omega, rfl, fun _ => H1.out (by omega), fun _ => hr, fun h => by omega, bal hB _⟩
          case measure => simp [intOf]
        · have hr' : g < r ∨ g - r < n := by omega
          have R : Hid (chk ⟨g, n, r, l⟩ = (14, 0)) := by
            show (if _ then _ else _) = _
            rw [if_neg (by have := H1.out (by omega); show ¬ 1125899906842624 < g; omega), if_pos hr']
          have HR := Lib.hid hr'
          clear hr hr'
          go_wp2_with fail
          refine (rule2_f w.heap.size g n r _ ((oldcell _ hzw 0).trans q0) ((oldcell _ hzw 1).trans q1) ((oldcell _ hzw 2).trans q2) hg1 hr0 HR.out).mono ?_
          rintro e w' ⟨rfl, rfl⟩
          go_wp2_with fail
          go_ret2
          exact ⟨by rw [R.out]; rfl, bal hBw _⟩
      · by_cases e2 : i = 2
        · subst e2
          go_wp2_with fail
          refine (rule3 w.heap.size A l.length c _ ((oldcell _ hzw 3).trans q3)).mono ?_
          rintro e w' ⟨rfl, rfl⟩
          by_cases hg : (l.length : Int) ≤ 100
          · have D : Hid (decide ((l.length : Int) ≤ 100) = true) := by show decide _ = true; simpa using hg
            rw [D.out]
            have hg' : l.length ≤ 100 := by omega
            clear hg
            go_wp2_with fail
            go_roundw
            case rel => exact ⟨3, by omega, rfl, fun _ => H1.out (by omega), fun _ => H2.out (by omega), fun _ => hg', bal hB _⟩
            case measure => simp [intOf]
          · have D : Hid (decide ((l.length : Int) ≤ 100) = false) := by show decide _ = false; simpa using hg
            rw [D.out]
            have R : Hid (chk ⟨g, n, r, l⟩ = (5, 0)) := by
              have a := H1.out (by omega)
              have b := H2.out (by omega)
              show (if _ then _ else _) = _
              rw [if_neg (by show ¬ 1125899906842624 < g; omega), if_neg (by show ¬ (g < r ∨ g - r < n); omega), if_pos (by show 100 < l.length; omega)]
            go_wp2_with fail
            go_ret2
            exact ⟨by rw [R.out]; rfl, bal hBw _⟩
        · obtain rfl : i = 3 := by omega
          have R : Hid (chk ⟨g, n, r, l⟩ = scan n [] 0 l) := by
            have a := H1.out (by omega)
            have b := H2.out (by omega)
            have c := H3.out (by omega)
            show (if _ then _ else _) = _
            rw [if_neg (by show ¬ 1125899906842624 < g; omega), if_neg (by show ¬ (g < r ∨ g - r < n); omega), if_neg (by show ¬ 100 < l.length; omega)]
          have hlen : l.length ≤ 100 := H3.out (by omega)
          clear t0 t1 t2 t3 t4 t5 H1 H2 H3 hB
          rw [show ((3 : Nat) : Int) = 3 from rfl]
          go_wp2_with fail
          obtain ⟨wo, rfl⟩ : ∃ wo : World, wo = wr := ⟨_, rfl⟩
          go_loopw [6, 31] (fun e a wr => ∃ (k : Nat) (E : Int), k ≤ l.length ∧ a = .int .i64 k ∧ e = .int .u64 E ∧ 0 ≤ E ∧ E ≤ 18446744073709551615 ∧ scan n (l.take k) E (l.drop k) = scan n [] 0 l ∧ Below wo.heap.size wo wr) (fun _ a _ => l.length - (intOf a).toNat)
          case atStart => exact ⟨0, 0, by omega, rfl, rfl, by omega, by omega, rfl, Below.refl _ _⟩
          case round =>
            obtain ⟨k, E, hk, rfl, rfl, hE0, hE1, hsc, hB⟩ := hrel
            have HSC := Lib.hid hsc
            clear hsc
            have hzo : w.heap.size < wr.heap.size := by have := hB.size; omega
            have u1 := (hB.cell (p := ⟨w.heap.size, 1, none⟩) hzw).trans q1
            have u3 := (hB.cell (p := ⟨w.heap.size, 3, none⟩) hzw).trans q3
            have HSz : Hid (SlAt wr 5 (.slice A l.length c) l.length (flat l)) := Lib.hid (HSr.out.below hB)
            by_cases hlt : k < l.length
            · obtain ⟨x, hx⟩ : ∃ x, l[k]? = some x := ⟨_, List.getElem?_eq_getElem hlt⟩
              have hxw := HL.out x (List.mem_of_getElem? hx)
              have x1 := hxw.1.1
              have x2 := hxw.1.2
              have x3 := hxw.2.1.1
              have x4 := hxw.2.1.2
              have HC := Lib.hid (scan_cons (n := n) (E := E) hx)
              obtain ⟨A', c', ea, _, _, hR⟩ := HSz.out
              cases ea
              obtain ⟨b, of, rfl, hb, d0, d1, d2, d3, d4⟩ := slot_cells hR rfl hx
              have hi : (k : Int) < l.length := by omega
              clear hx hxw hR
              by_cases c1 : x.size = 0
              · have F : Hid (chk ⟨g, n, r, l⟩ = (2, (k : Int))) := by
                  rw [R.out, ← HSC.out, HC.out]
                  have : slotE n (l.take k) E x = 2 := if_pos (.inl c1)
                  rw [this, if_neg (by decide)]; rfl
                have t1 : (x.size == 0) = true := by simp [c1]
                have hBf : Below w.heap.size w wr := bnext hBw hB
                clear c1 u1 u3
                go_wp2_with fail
                go_ret2
                exact ⟨by rw [F.out]; rfl, bal hBf _⟩
              · have t1 : (x.size == 0) = false := by simp [c1]
                by_cases c2 : IdOk x.node x.seq x.io
                · have ID : Hid (idE x.node x.seq x.io = 0) := if_pos c2
                  have N1 : Hid (¬ (x.size = 0 ∨ ¬ IdOk x.node x.seq x.io)) := fun h => h.elim c1 (fun h => h c2)
                  clear c1 c2
                  go_wp2_with fail
                  refine (CheckID_any _ _ _ _).mono ?_
                  rintro e w1 ⟨rfl, hb1⟩
                  rw [ID.out]
                  have hcf := (bcell hb1).1
                  have hzz := hb1.size
                  rw [World.size_alloc] at hzz
                  have k0 : w1.cell? ⟨wr.heap.size, 0, none⟩ = some (.int .u64 x.off) := by rw [hcf _ _ (by simp), newcell]; rfl
                  have k1 : w1.cell? ⟨wr.heap.size, 1, none⟩ = some (.int .u64 x.size) := by rw [hcf _ _ (by simp), newcell]; rfl
                  have k2 : w1.cell? ⟨wr.heap.size, 2, none⟩ = some (.int .i64 x.node) := by rw [hcf _ _ (by simp), newcell]; rfl
                  have k3 : w1.cell? ⟨wr.heap.size, 3, none⟩ = some (.int .u64 x.seq) := by rw [hcf _ _ (by simp), newcell]; rfl
                  have k4 : w1.cell? ⟨wr.heap.size, 4, none⟩ = some (.int .i64 x.io) := by rw [hcf _ _ (by simp), newcell]; rfl
                  have u1' : w1.cell? ⟨w.heap.size, 1, none⟩ = some (.int .u64 n) := by rw [hcf _ _ (by simp; omega), oldcell _ hzo]; exact u1
                  have u3' : w1.cell? ⟨w.heap.size, 3, none⟩ = some (.slice (some ⟨b, of, none⟩) l.length c) := by rw [hcf _ _ (by simp; omega), oldcell _ hzo]; exact u3
                  have hBf : Below w.heap.size w w1 := bnext (bal (bnext hBw hB) _) hb1
                  have hBo : Below wo.heap.size wo w1 := bnext (bal hB _) hb1
                  clear hcf u1 u3 d0 d1 d2 d3 d4
                  by_cases c3 : x.off < E ∨ n < x.off ∨ n - x.off < x.size
                  · have F : Hid (chk ⟨g, n, r, l⟩ = (19, (k : Int))) := by
                      rw [R.out, ← HSC.out, HC.out]
                      have : slotE n (l.take k) E x = 19 := by unfold slotE; rw [if_neg N1.out, if_pos c3]
                      rw [this, if_neg (by decide)]; rfl
                    by_cases c4 : x.off < E
                    · clear c3
                      go_wp2_with fail
                      go_ret2
                      exact ⟨by rw [F.out]; rfl, hBf⟩
                    · by_cases c5 : n < x.off
                      · clear c3
                        go_wp2_with fail
                        go_ret2
                        exact ⟨by rw [F.out]; rfl, hBf⟩
                      · have c6 : n - x.off < x.size := by omega
                        clear c3
                        go_wp2_with fail
                        go_ret2
                        exact ⟨by rw [F.out]; rfl, hBf⟩
                  · have N2 : Hid (¬ (x.off < E ∨ n < x.off ∨ n - x.off < x.size)) := c3
                    have c4 : E ≤ x.off := by omega
                    have c5 : x.off ≤ n := by omega
                    have c6 : x.size ≤ n - x.off := by omega
                    clear c3
                    have HST : SlAt w1 5 (.slice (some ⟨b, of, none⟩) k c) (l.take k).length (flat (l.take k)) := slAt_take ((HSz.out.alloc _).below hb1) rfl hk
                    have HT := Lib.hid HST
                    clear HST
                    by_cases ha : anyHas x.node x.seq x.io (l.take k) = true
                    · have F : Hid (chk ⟨g, n, r, l⟩ = (9, (k : Int))) := by
                        rw [R.out, ← HSC.out, HC.out]
                        have : slotE n (l.take k) E x = 9 := by unfold slotE; rw [if_neg N1.out, if_neg N2.out, if_pos ha]
                        rw [this, if_neg (by decide)]; rfl
                      have hid := idx_pos ha
                      clear ha
                      go_wp2_with fail
                      go_region_with (go_at_call 102; refine (slot_any 0 0 0 _ x.node x.seq x.io (l.take k) _ HT.out.drew).mono ?_; rintro e w2 ⟨rfl, hb2⟩)
                      all_goals go_wp2_with fail
                      all_goals go_ret2
                      all_goals exact ⟨by rw [F.out]; rfl, bnext (bdr hBf) hb2⟩
                    · have ha' : anyHas x.node x.seq x.io (l.take k) = false := by simpa using ha
                      have F : Hid (scan n (l.take (k + 1)) (x.off + x.size) (l.drop (k + 1)) = scan n [] 0 l) := by
                        rw [← HSC.out, HC.out]
                        have : slotE n (l.take k) E x = 0 := by unfold slotE; rw [if_neg N1.out, if_neg N2.out, if_neg ha]
                        rw [this, if_pos rfl]; rfl
                      have hid := idx_neg ha'
                      have hid' : ¬ 0 ≤ idx x.node x.seq x.io (l.take k) := by omega
                      clear ha ha'
                      go_wp2_with fail
                      go_region_with (go_at_call 102; refine (slot_any 0 0 0 _ x.node x.seq x.io (l.take k) _ HT.out.drew).mono ?_; rintro e w2 ⟨rfl, hb2⟩)
                      all_goals
                        have m0 := (hb2.cell (p := ⟨wr.heap.size, 0, none⟩) (by show wr.heap.size < w1.heap.size; omega)).trans k0
                        have m1 := (hb2.cell (p := ⟨wr.heap.size, 1, none⟩) (by show wr.heap.size < w1.heap.size; omega)).trans k1
                        go_wp2_with fail
                        go_roundw
                        case rel => exact ⟨k + 1, x.off + x.size, by omega, by go_num, by go_num, by omega, by omega, F.out, bnext (bdr hBo) hb2⟩
                        case measure => simp [intOf]; omega
                · have ID : Hid (idE x.node x.seq x.io = 2) := if_neg c2
                  have F : Hid (chk ⟨g, n, r, l⟩ = (2, (k : Int))) := by
                    rw [R.out, ← HSC.out, HC.out]
                    have : slotE n (l.take k) E x = 2 := if_pos (.inr c2)
                    rw [this, if_neg (by decide)]; rfl
                  clear c1 c2
                  go_wp2_with fail
                  refine (CheckID_any _ _ _ _).mono ?_
                  rintro e w1 ⟨rfl, hb1⟩
                  rw [ID.out]
                  have hcf := (bcell hb1).1
                  have hzz := hb1.size
                  rw [World.size_alloc] at hzz
                  have k0 : w1.cell? ⟨wr.heap.size, 0, none⟩ = some (.int .u64 x.off) := by rw [hcf _ _ (by simp), newcell]; rfl
                  have k1 : w1.cell? ⟨wr.heap.size, 1, none⟩ = some (.int .u64 x.size) := by rw [hcf _ _ (by simp), newcell]; rfl
                  have k2 : w1.cell? ⟨wr.heap.size, 2, none⟩ = some (.int .i64 x.node) := by rw [hcf _ _ (by simp), newcell]; rfl
                  have k3 : w1.cell? ⟨wr.heap.size, 3, none⟩ = some (.int .u64 x.seq) := by rw [hcf _ _ (by simp), newcell]; rfl
                  have k4 : w1.cell? ⟨wr.heap.size, 4, none⟩ = some (.int .i64 x.io) := by rw [hcf _ _ (by simp), newcell]; rfl
                  have u1' : w1.cell? ⟨w.heap.size, 1, none⟩ = some (.int .u64 n) := by rw [hcf _ _ (by simp; omega), oldcell _ hzo]; exact u1
                  have u3' : w1.cell? ⟨w.heap.size, 3, none⟩ = some (.slice (some ⟨b, of, none⟩) l.length c) := by rw [hcf _ _ (by simp; omega), oldcell _ hzo]; exact u3
                  have hBf : Below w.heap.size w w1 := bnext (bal (bnext hBw hB) _) hb1
                  have hBo : Below wo.heap.size wo w1 := bnext (bal hB _) hb1
                  clear hcf u1 u3 d0 d1 d2 d3 d4
                  go_wp2_with fail
                  go_ret2
                  exact ⟨by rw [F.out]; rfl, hBf⟩
            · have hk' : k = l.length := by omega
              have F : Hid (chk ⟨g, n, r, l⟩ = (0, 0)) := by
                rw [R.out, ← HSC.out, hk', List.drop_length]
                rfl
              have hBf : Below w.heap.size w wr := bnext hBw hB
              have hi : ¬ (k : Int) < l.length := by omega
              clear hk'
              go_wp2_with fail
              go_ret2
              exact ⟨by rw [F.out]; rfl, hBf⟩
end Go.Proofs.Ytfgkkflbpfocjaa

