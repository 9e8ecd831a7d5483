/- Contract: giving back. -/
import Derived.Test.YtdfppaafoecgmaaF
import Derived.Deep.DeepCutAuto
import Derived.Deep.RegionHeld3
namespace Go.Proofs.Ytdfppaafoecgmaa
open Go.RowKit
set_option linter.unusedVariables false
set_option linter.unusedSimpArgs false

/-- a row of slots lies on where a block of another type is written -/
theorem ho_far {w : World} {base : Nat} {e t : TypeId} {size n : Nat} {v : Value} {xs : List Value} {a : Addr} {cs : Array Value} (h : w.ownsRow base e size v n xs) (hk : Blk w a.block t cs) (hne : e ≠ t) (u : Value) : (w.setCell a u).ownsRow base e size v n xs := by
  refine h.kept (row := some a.block) ⟨rfl, rfl, rfl, by simp [World.setCell], fun k _ hk => Below.heap_setCell _ _ _ _ (fun e => hk (by rw [e]))⟩ ?_
  rcases h.2 with ⟨rfl, _⟩ | ⟨g, cap, cur, rfl, _, hh, _⟩
  · exact .inl rfl
  · right
    intro e'
    have : g = a.block := by simpa [Value.ownBlock] using e'
    subst this
    unfold Blk at hk
    rw [hk] at hh
    injection hh with hh
    injection hh with _ ht
    exact hne ht.symm

/-- what Give takes -/
def byOf (t r u : Int) : Int := if t ≤ r then 0 else if u < t - r then u else t - r
/-- what lies behind the statement: the result's block, the ledger's block, the slots -/
def After (w w1 : World) (g n r : Int) (l : List Sl) (A : Option Addr) (c : Nat) (wx : World) : Prop :=
  Blk wx (w.heap.size + 1) 26 #[.int .u64 0, .int .u64 0, .int .u64 0, .slice none 0 0] ∧ Blk wx w1.heap.size 58 #[.int .u64 g, .int .u64 n, .int .u64 r, .slice A l.length c] ∧
    wx.ownsRow (w.heap.size + 2) 44 5 (.slice A l.length c) l.length (flat l) ∧ Below w.heap.size w wx

theorem lusable_u (g n r u : Int) (hu : Hid (g - n - r = u)) (v : Value) (w : World) (hg : g ≤ 18446744073709551615) (hn : 0 ≤ n) (hr : 0 ≤ r) (h : n + r ≤ g) (hv : ∃ A l c, v = .slice A l c) :
    Calls Try.prog 42 #[.agg #[.int .u64 g, .int .u64 n, .int .u64 r, v]] w (RetI .u64 u w) := by
  rw [← hu.out]; exact lusable_any g n r v w hg hn hr h hv

set_option maxRecDepth 100000 in
set_option maxHeartbeats 2000000 in
theorem Give_any (s : Led) (hw : Wf s) (t : Int) (ht0 : 0 ≤ t) (v : Value) (w : World) (hS : SlAt w 5 v s.sl.length (flat s.sl)) :
    Calls Try.prog 21 #[.agg #[.int .u64 s.g, .int .u64 s.n, .int .u64 s.r, v], .int .u64 t] w (LedPost (give s t) w) := by
  obtain ⟨g, n, r, l⟩ := s
  obtain ⟨A, c, rfl, hc1, hc2, _⟩ := id hS
  have HS := Lib.hid hS
  have HW := Lib.hid hw
  clear hS hw
  by_cases hk : okL ⟨g, n, r, l⟩
  · have hn : g ≤ 1125899906842624 ∧ r ≤ g ∧ n ≤ g - r := okL_nums hk
    have hg0 : 0 ≤ g := HW.out.1.1
    have hg1 : g ≤ 18446744073709551615 := HW.out.1.2
    have hn0 : 0 ≤ n := HW.out.2.1.1
    have hr0 : 0 ≤ r := HW.out.2.2.1.1
    have hr1 : r ≤ 18446744073709551615 := HW.out.2.2.1.2
    have hsum : n + r ≤ g := by omega
    obtain ⟨u, hu⟩ : ∃ u, g - n - r = u := ⟨_, rfl⟩
    have hu0 : 0 ≤ u := by omega
    have hu2 : u + r ≤ g := by omega
    have HU := Lib.hid hu
    clear hu
    have HK := Lib.hid hk
    clear hk
    go_enter Try.func21, Try.ntmps21
    go_wp2_with fail
    refine (opened_ok ⟨g, n, r, l⟩ HW.out _ _ ((HS.out.alloc _).alloc _) HK.out).mono ?_
    rintro e w1 ⟨A', c', rfl, hown, hb1⟩
    have hB1 : Below w.heap.size w w1 := bnext (bal (bal (Below.refl _ _) _) _) hb1
    have k1 := ((Blk.new1 w (.cells #[.int .u64 g, .int .u64 n, .int .u64 r, .slice A l.length c] 26) 26 #[.int .u64 0, .int .u64 0, .int .u64 0, .slice none 0 0]).below hb1)
    obtain ⟨d0, d1, d2, d3⟩ := k1.c4
    obtain ⟨f0, f1, f2, f3⟩ := k1.f4
    have hz := hb1.size
    simp at hz
    have hlt : w.heap.size + 1 < w1.heap.size := by omega
    have hne : ¬ w.heap.size + 1 = w1.heap.size := by omega
    have HO := Lib.hid (own_mono hown (by simp : w.heap.size + 2 ≤ _))
    have K1 := Lib.hid k1
    clear hb1 k1 hown
    by_cases ht : 1125899906842624 < t
    · have G : Hid (give ⟨g, n, r, l⟩ t = (⟨0, 0, 0, []⟩, 0, 2)) := by show (if _ then _ else _) = _; rw [if_neg (fun h => h HK.out), if_pos ht]
      go_wp2_with fail
      refine bodyPost_ret (v := .tuple #[.agg #[.int .u64 0, .int .u64 0, .int .u64 0, .slice none 0 0], .int .u64 0, .int .i64 2]) (by simp [results, Try.results21, go_sem, d0, d1, d2, d3, hlt, hne]) rfl ⟨.slice none 0 0, ?_, ?_, ?_⟩
      · rw [G.out]
      · rw [G.out]; exact World.ownsRow_nil _ _ _ _
      · exact (by repeat (first | with_reducible exact Below.refl _ _ | with_reducible refine Below.drew ?_ | with_reducible refine below_drewN ?_ _ | with_reducible refine bal ?_ _ | with_reducible refine bset ?_ (by first | (simp; done) | (simp; omega)) _ | with_reducible refine bnext ?_ (by assumption) | with_reducible assumption))
    · have hu1 : ¬ u < 0 := by omega
      go_upto_region 6 with fail
      go_cut [9] (fun s9 wx => s9 = .int .u64 (byOf t r u) ∧ After w w1 g n r l A' c' wx)
      case first =>
        rcases Int.lt_trichotomy t r with hg | hg | hg
        · have WR : IntKind.u64.wrap 0 = 0 := rfl
          have hm : (if t < r then r else t) = r := by split <;> omega
          go_region_held3 (fun w' => w'.cell? ⟨w1.heap.size, 0, none⟩ = some (.int .u64 g) ∧ w'.cell? ⟨w1.heap.size, 1, none⟩ = some (.int .u64 n) ∧ w'.cell? ⟨w1.heap.size, 2, none⟩ = some (.int .u64 r) ∧ w'.cell? ⟨w1.heap.size, 3, none⟩ = some (.slice A' l.length c')) (go_keep)
            (first | (go_at_call 42; refine (lusable_u g n r u HU _ _ (by assumption) (by assumption) (by assumption) (by assumption) ⟨_, _, _, rfl⟩).mono ?_; rintro e w2 ⟨rfl, hb2⟩; have hcf := (bcell hb2).1; have hz2 := hb2.size; try simp at hz2))
          all_goals
            have k1 := ((K1.out.alloc (.cells #[.int .u64 g, .int .u64 n, .int .u64 r, .slice A' l.length c'] 58)).drew).below hb2
            have kl := ((Blk.new w1 58 #[.int .u64 g, .int .u64 n, .int .u64 r, .slice A' l.length c']).drew).below hb2
            have hfin : After w w1 g n r l A' c' w2 := ⟨k1, kl, own_below hb2 ((HO.out.alloc _).drew), bnext (bdr (bal hB1 _)) hb2⟩
            clear hcf k1 kl
            go_wp2_with fail
          all_goals clear WR hm
          all_goals first | (exfalso; omega) | (go_meet; exact ⟨by unfold byOf; rw [if_pos (Int.le_of_lt hg)], hfin⟩)
        · subst hg
          have WR : IntKind.u64.wrap 0 = 0 := rfl
          have hm : (if t < t then t else t) = t := by split <;> omega
          go_region_held3 (fun w' => w'.cell? ⟨w1.heap.size, 0, none⟩ = some (.int .u64 g) ∧ w'.cell? ⟨w1.heap.size, 1, none⟩ = some (.int .u64 n) ∧ w'.cell? ⟨w1.heap.size, 2, none⟩ = some (.int .u64 t) ∧ w'.cell? ⟨w1.heap.size, 3, none⟩ = some (.slice A' l.length c')) (go_keep)
            (first | (go_at_call 42; refine (lusable_u g n t u HU _ _ (by assumption) (by assumption) (by assumption) (by assumption) ⟨_, _, _, rfl⟩).mono ?_; rintro e w2 ⟨rfl, hb2⟩; have hcf := (bcell hb2).1; have hz2 := hb2.size; try simp at hz2))
          all_goals
            have k1 := ((K1.out.alloc (.cells #[.int .u64 g, .int .u64 n, .int .u64 t, .slice A' l.length c'] 58)).drew).below hb2
            have kl := ((Blk.new w1 58 #[.int .u64 g, .int .u64 n, .int .u64 t, .slice A' l.length c']).drew).below hb2
            have hfin : After w w1 g n t l A' c' w2 := ⟨k1, kl, own_below hb2 ((HO.out.alloc _).drew), bnext (bdr (bal hB1 _)) hb2⟩
            clear hcf k1 kl
            go_wp2_with fail
          all_goals clear WR hm
          all_goals first | (exfalso; omega) | (go_meet; exact ⟨by unfold byOf; rw [if_pos (Int.le_refl _)], hfin⟩)
        · have WR : IntKind.u64.wrap (t - r) = t - r := IntWalk.u64_in _ (by omega)
          have hm : (if t < r then r else t) = t := if_neg (by omega)
          by_cases hx : u < t - r
          · have hx' := hx
            go_region_held3 (fun w' => w'.cell? ⟨w1.heap.size, 0, none⟩ = some (.int .u64 g) ∧ w'.cell? ⟨w1.heap.size, 1, none⟩ = some (.int .u64 n) ∧ w'.cell? ⟨w1.heap.size, 2, none⟩ = some (.int .u64 r) ∧ w'.cell? ⟨w1.heap.size, 3, none⟩ = some (.slice A' l.length c')) (go_keep)
              (first | (go_at_call 42; refine (lusable_u g n r u HU _ _ (by assumption) (by assumption) (by assumption) (by assumption) ⟨_, _, _, rfl⟩).mono ?_; rintro e w2 ⟨rfl, hb2⟩; have hcf := (bcell hb2).1; have hz2 := hb2.size; try simp at hz2))
            all_goals
              have k1 := ((K1.out.alloc (.cells #[.int .u64 g, .int .u64 n, .int .u64 r, .slice A' l.length c'] 58)).drew).below hb2
              have kl := ((Blk.new w1 58 #[.int .u64 g, .int .u64 n, .int .u64 r, .slice A' l.length c']).drew).below hb2
              have hfin : After w w1 g n r l A' c' w2 := ⟨k1, kl, own_below hb2 ((HO.out.alloc _).drew), bnext (bdr (bal hB1 _)) hb2⟩
              clear hcf k1 kl
              go_wp2_with fail
            all_goals clear WR hm
            all_goals first | (exfalso; omega) | (go_meet; exact ⟨by unfold byOf; rw [if_neg (by omega), if_pos hx], hfin⟩)
          · have hx' := hx
            go_region_held3 (fun w' => w'.cell? ⟨w1.heap.size, 0, none⟩ = some (.int .u64 g) ∧ w'.cell? ⟨w1.heap.size, 1, none⟩ = some (.int .u64 n) ∧ w'.cell? ⟨w1.heap.size, 2, none⟩ = some (.int .u64 r) ∧ w'.cell? ⟨w1.heap.size, 3, none⟩ = some (.slice A' l.length c')) (go_keep)
              (first | (go_at_call 42; refine (lusable_u g n r u HU _ _ (by assumption) (by assumption) (by assumption) (by assumption) ⟨_, _, _, rfl⟩).mono ?_; rintro e w2 ⟨rfl, hb2⟩; have hcf := (bcell hb2).1; have hz2 := hb2.size; try simp at hz2))
            all_goals
              have k1 := ((K1.out.alloc (.cells #[.int .u64 g, .int .u64 n, .int .u64 r, .slice A' l.length c'] 58)).drew).below hb2
              have kl := ((Blk.new w1 58 #[.int .u64 g, .int .u64 n, .int .u64 r, .slice A' l.length c']).drew).below hb2
              have hfin : After w w1 g n r l A' c' w2 := ⟨k1, kl, own_below hb2 ((HO.out.alloc _).drew), bnext (bdr (bal hB1 _)) hb2⟩
              clear hcf k1 kl
              go_wp2_with fail
            all_goals clear WR hm
            all_goals first | (exfalso; omega) | (go_meet; exact ⟨by unfold byOf; rw [if_neg (by omega), if_neg (by omega)], hfin⟩)
      case rest =>
        obtain ⟨rfl, k1, kl, ho, hB⟩ := hcut
        have hzx := hB.size
        have hby : 0 ≤ byOf t r u ∧ byOf t r u ≤ u := by unfold byOf; (repeat' split) <;> omega
        have hb0 := hby.1
        have hb1 : r + byOf t r u ≤ 18446744073709551615 := by omega
        have hug : r + byOf t r u ≤ 18446744073709551615 := hb1
        have G : Hid (give ⟨g, n, r, l⟩ t = (⟨g, n, r + byOf t r u, l⟩, byOf t r u, 0)) := by
          show (if _ then _ else _) = _
          rw [if_neg (fun h => h HK.out), if_neg (by omega)]
          have e : usab ⟨g, n, r, l⟩ = u := HU.out
          show (if t ≤ r then _ else if usab ⟨g, n, r, l⟩ < t - r then _ else _) = _
          rw [e]
          unfold byOf
          split
          · simp
          · split
            · rfl
            · simp; omega
        have hlx := kl.lt
        obtain ⟨d0, d1, d2, d3⟩ := k1.c4
        obtain ⟨f0, f1, f2, f3⟩ := k1.f4
        obtain ⟨l0, l1, l2, l3⟩ := kl.c4
        obtain ⟨m0, m1, m2, m3⟩ := kl.f4
        have HO3 := Lib.hid ho
        have HKL := Lib.hid kl
        clear k1 kl ho hby
        generalize byOf t r u = by' at *
        go_wp2_with fail
        refine bodyPost_ret (v := .tuple #[.agg #[.int .u64 g, .int .u64 n, .int .u64 (r + by'), .slice A' l.length c'], .int .u64 by', .int .i64 0]) (by simp [results, Try.results21, go_sem, d0, d1, d2, d3, l0, l1, l2, l3, hlt, hne]) rfl ⟨.slice A' l.length c', ?_, ?_, ?_⟩
        · rw [G.out]
        · rw [G.out]
          refine own_mono (base := w.heap.size + 2) ?_ (by omega)
          have p0 := ho_far (a := ⟨w1.heap.size, 2, none⟩) HO3.out HKL.out (by decide) (.int .u64 (r + by'))
          repeat (first | with_reducible exact p0 | with_reducible exact HO3.out | with_reducible refine World.ownsRow.drew ?_ | with_reducible refine World.ownsRow.alloc ?_ _ | with_reducible refine ownsRow_setCell_below ?_ (by simp) _)
        · exact (by repeat (first | with_reducible exact Below.refl _ _ | with_reducible refine Below.drew ?_ | with_reducible refine below_drewN ?_ _ | with_reducible refine bal ?_ _ | with_reducible refine bset ?_ (by first | (simp; done) | (simp; omega)) _ | with_reducible refine bnext ?_ (by assumption) | with_reducible assumption))
  · have HK := Lib.hid hk
    have hne : ((chk ⟨g, n, r, l⟩).1 != 0) = true := by rw [bne_iff_ne]; exact hk
    have heq : ((chk ⟨g, n, r, l⟩).1 == 0) = false := by rw [beq_eq_false_iff_ne]; exact hk
    have G : Hid (give ⟨g, n, r, l⟩ t = (⟨0, 0, 0, []⟩, 0, (chk ⟨g, n, r, l⟩).1)) := if_pos hk
    clear hk
    go_enter Try.func21, Try.ntmps21
    go_wp2_with fail
    refine (opened_no ⟨g, n, r, l⟩ HW.out _ _ ((HS.out.alloc _).alloc _) HK.out).mono ?_
    rintro e w1 ⟨A', c', rfl, hb1⟩
    have hB1 : Below w.heap.size w w1 := bnext (bal (bal (Below.refl _ _) _) _) hb1
    have k1 := ((Blk.new1 w (.cells #[.int .u64 g, .int .u64 n, .int .u64 r, .slice A l.length c] 26) 26 #[.int .u64 0, .int .u64 0, .int .u64 0, .slice none 0 0]).below hb1)
    obtain ⟨d0, d1, d2, d3⟩ := k1.c4
    obtain ⟨f0, f1, f2, f3⟩ := k1.f4
    have hz := hb1.size
    simp at hz
    have hlt : w.heap.size + 1 < w1.heap.size := by omega
    have hne' : ¬ w.heap.size + 1 = w1.heap.size := by omega
    clear hb1 k1
    generalize (chk ⟨g, n, r, l⟩).1 = er at *
    go_wp2_with fail
    refine bodyPost_ret (v := .tuple #[.agg #[.int .u64 0, .int .u64 0, .int .u64 0, .slice none 0 0], .int .u64 0, .int .i64 er]) (by simp [results, Try.results21, go_sem, d0, d1, d2, d3, hlt, hne']) rfl ⟨.slice none 0 0, ?_, ?_, ?_⟩
    · rw [G.out]
    · rw [G.out]; exact World.ownsRow_nil _ _ _ _
    · exact (by repeat (first | with_reducible exact Below.refl _ _ | with_reducible refine Below.drew ?_ | with_reducible refine below_drewN ?_ _ | with_reducible refine bal ?_ _ | with_reducible refine bset ?_ (by first | (simp; done) | (simp; omega)) _ | with_reducible refine bnext ?_ (by assumption) | with_reducible assumption))
end Go.Proofs.Ytdfppaafoecgmaa
