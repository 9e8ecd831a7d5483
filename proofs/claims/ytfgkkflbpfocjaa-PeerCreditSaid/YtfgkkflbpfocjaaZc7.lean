/- Contracts: a receiver's room, whether a number lies in ranges, sets checked and sized. -/
import Derived.Test.YtfgkkflbpfocjaaZc6
namespace Go.Proofs.Ytfgkkflbpfocjaa
open Go.RowKit
set_option linter.unusedVariables false
set_option linter.unusedSimpArgs false

theorem reads_rg {w : World} {A : Option Addr} {n : Nat} {l : List Rg} (h : Reads w 2 A n (fl Rg.cells l)) (hn : n = l.length) {i : Nat} {x : Rg} (hx : l[i]? = some x) :
    ∃ b o, A = some ⟨b, o, none⟩ ∧ b < w.heap.size ∧ w.cell? ⟨b, o + i * 2, none⟩ = some (.int .u64 x.f) ∧ w.cell? ⟨b, o + i * 2 + 1, none⟩ = some (.int .u64 x.t) := reads_fl2 rg2 h hn hx rfl
theorem reads_kp {w : World} {A : Option Addr} {n : Nat} {l : List Int} (h : Reads w 1 A n (fl kc l)) (hn : n = l.length) {i : Nat} {x : Int} (hx : l[i]? = some x) :
    ∃ b o, A = some ⟨b, o, none⟩ ∧ b < w.heap.size ∧ w.cell? ⟨b, o + i, none⟩ = some (.int .u64 x) := by
  obtain ⟨b, o, e, hb, hc⟩ := reads_fl kc1 h hn hx
  have := hc 0 _ rfl
  rw [Nat.mul_one, Nat.add_zero] at this
  exact ⟨b, o, e, hb, this⟩

set_option maxHeartbeats 1000000 in
theorem room_any (a b f : Int) (vt vk : Value) (w : World) (hb : 0 ≤ b) (hba : b ≤ a) (ha : a ≤ 18446744073709551615) (ht : ∃ A l c, vt = .slice A l c) (hk : ∃ A l c, vk = .slice A l c) :
    Calls Try.prog 103 #[.agg #[.int .u64 a, .int .u64 b, .int .u64 f, vt, vk]] w (RetI .u64 (a - b) w) := by
  obtain ⟨A, l, c, rfl⟩ := ht
  obtain ⟨A', l', c', rfl⟩ := hk
  have WS : IntKind.u64.wrap (a - b) = a - b := IntWalk.u64_in _ (by omega)
  go_enter Try.func103, Try.ntmps103
  go_wp2_with fail
  go_ret
  exact ⟨rfl, (by repeat (first | with_reducible exact Below.refl _ _ | with_reducible refine Below.drew ?_ | with_reducible refine below_drewN ?_ _ | with_reducible refine bal ?_ _ | with_reducible refine bset ?_ (by first | (simp; done) | (simp; omega)) _ | with_reducible refine bnext ?_ (by assumption) | with_reducible assumption))⟩

set_option maxHeartbeats 1000000 in
theorem inf_any (x : Rg) (n : Int) (g : Nat) (w : World) (hg : g < w.heap.size) (c0 : w.cell? ⟨g, 0, none⟩ = some (.int .u64 n)) :
    Calls Try.prog 119 #[.agg #[.int .u64 x.f, .int .u64 x.t], .pointer (some ⟨g, 0, none⟩)] w (RetB (x.inB n) w) := by
  have hne : ¬ g = w.heap.size := by omega
  by_cases h1 : x.f ≤ n
  · by_cases h2 : n < x.t
    · have R : Hid (x.inB n = true) := Lib.hid (by simp [Rg.inB, h1, h2])
      go_enter Try.func119, Try.ntmps119
      go_wp2_with fail
      go_ret
      exact ⟨by rw [R.out]; rfl, (by repeat (first | with_reducible exact Below.refl _ _ | with_reducible refine Below.drew ?_ | with_reducible refine below_drewN ?_ _ | with_reducible refine bal ?_ _ | with_reducible refine bset ?_ (by first | (simp; done) | (simp; omega)) _ | with_reducible refine bnext ?_ (by assumption) | with_reducible assumption))⟩
    · have R : Hid (x.inB n = false) := Lib.hid (by simp [Rg.inB, h1, h2])
      go_enter Try.func119, Try.ntmps119
      go_wp2_with fail
      go_ret
      exact ⟨by rw [R.out]; simp [h2], (by repeat (first | with_reducible exact Below.refl _ _ | with_reducible refine Below.drew ?_ | with_reducible refine below_drewN ?_ _ | with_reducible refine bal ?_ _ | with_reducible refine bset ?_ (by first | (simp; done) | (simp; omega)) _ | with_reducible refine bnext ?_ (by assumption) | with_reducible assumption))⟩
  · have R : Hid (x.inB n = false) := Lib.hid (by simp [Rg.inB, h1])
    go_enter Try.func119, Try.ntmps119
    go_wp2_with fail
    go_ret
    exact ⟨by rw [R.out]; rfl, (by repeat (first | with_reducible exact Below.refl _ _ | with_reducible refine Below.drew ?_ | with_reducible refine below_drewN ?_ _ | with_reducible refine bal ?_ _ | with_reducible refine bset ?_ (by first | (simp; done) | (simp; omega)) _ | with_reducible refine bnext ?_ (by assumption) | with_reducible assumption))⟩

/-- the number of the first range that holds a number; -1 if there is none -/
def rix (l : List Rg) (n : Int) : Nat := (l.findIdx fun x => x.inB n)
theorem rix_lt {l : List Rg} {n : Int} : rix l n < l.length ↔ inR l n = true := by
  unfold rix inR
  rw [List.findIdx_lt_length, List.any_eq_true]
theorem rix_at {l : List Rg} {n : Int} {k : Nat} {x : Rg} (hk : k ≤ rix l n) (h : l[k]? = some x) : (x.inB n = true → rix l n = k) ∧ (x.inB n = false → k + 1 ≤ rix l n) := by
  have hl := (List.getElem?_eq_some_iff.1 h).1
  have he := (List.getElem?_eq_some_iff.1 h).2
  unfold rix at hk ⊢
  constructor
  · intro hb
    refine Nat.le_antisymm (Nat.le_of_not_lt fun hlt => ?_) hk
    have := List.not_of_lt_findIdx hlt
    rw [he] at this
    exact absurd hb (by rw [this]; decide)
  · intro hb
    rcases Nat.lt_or_eq_of_le hk with d | d
    · exact d
    · exfalso
      have hw : l.findIdx (fun x => x.inB n) < l.length := by omega
      have := List.findIdx_getElem (w := hw)
      have e2 : l[l.findIdx (fun x => x.inB n)] = x := by
        have h3 : l[List.findIdx (fun x => x.inB n) l]? = some x := by rw [← d]; exact h
        rw [List.getElem?_eq_getElem hw] at h3
        exact Option.some.inj h3
      rw [e2, hb] at this
      cases this

set_option maxHeartbeats 2000000 in
theorem ridx_any (l : List Rg) (n : Int) (v : Value) (g : Nat) (w : World) (hS : RgsAt w v l) (hg : g < w.heap.size) (c0 : w.cell? ⟨g, 0, none⟩ = some (.int .u64 n)) :
    Calls Try.prog 122 #[v, .func (.func 119) #[] #[.pointer (some ⟨g, 0, none⟩)]] w (RetI .i64 (if rix l n < l.length then (rix l n : Int) else -1) w) := by
  obtain ⟨A, c, rfl, h1, h2, hR⟩ := hS
  unfold maxLen at h2
  have HR := Lib.hid hR
  obtain ⟨ri, hri⟩ : ∃ ri, (if rix l n < l.length then (rix l n : Int) else -1) = ri := ⟨_, rfl⟩
  have RI := Lib.hid hri
  rw [hri]
  clear hR hri
  go_enter Try.func122, Try.ntmps122
  go_wp2_with fail
  go_loopw [5, 8] (fun _ a wr => ∃ k : Nat, k ≤ l.length ∧ a = .int .i64 k ∧ k ≤ rix l n ∧ Below w.heap.size w wr) (fun _ a _ => l.length - (intOf a).toNat)
  case atStart => exact ⟨0, by omega, rfl, by omega, Below.refl _ _⟩
  case round =>
    obtain ⟨k, hk, rfl, hf, hB⟩ := hrel
    obtain ⟨wy, rfl⟩ : ∃ wy : World, wy = wr := ⟨_, rfl⟩
    have HF := Lib.hid hf
    have HB := Lib.hid hB
    have hgy : g < wy.heap.size := by have := hB.size; omega
    have cy := (hB.cell (p := ⟨g, 0, none⟩) hg).trans c0
    clear hf hB
    by_cases hlt : k < l.length
    · obtain ⟨x, hx⟩ : ∃ x, l[k]? = some x := ⟨_, List.getElem?_eq_getElem hlt⟩
      obtain ⟨b, o, rfl, hb, p0, p1⟩ := reads_rg HR.out rfl hx
      have d0 := (HB.out.cell (p := ⟨b, o + k * 2, none⟩) hb).trans p0
      have d1 := (HB.out.cell (p := ⟨b, o + k * 2 + 1, none⟩) hb).trans p1
      have hki : (k : Int) < l.length := by omega
      have hk0 : (0 : Int) ≤ k := by omega
      obtain ⟨ha1, ha2⟩ := rix_at HF.out hx
      have CI := Lib.hid (fun w hg c0 => inf_any x n g w hg c0)
      cases hb2 : x.inB n with
      | true =>
        have E := Lib.hid (ha1 hb2)
        rw [hb2] at CI
        clear ha1 ha2 p0 p1 hx hb2
        go_wp2_with fail
        refine (CI.out _ hgy cy).mono ?_
        rintro e w1 ⟨rfl, hb1⟩
        have hB1 := bnext HB.out hb1
        clear hb1 d0 d1
        go_wp2_with fail
        go_ret
        exact ⟨ret_int (by rw [← RI.out, if_pos (by rw [E.out]; exact hlt), E.out]), hB1⟩
      | false =>
        have E := Lib.hid (ha2 hb2)
        rw [hb2] at CI
        clear ha1 ha2 p0 p1 hx hb2
        go_wp2_with fail
        refine (CI.out _ hgy cy).mono ?_
        rintro e w1 ⟨rfl, hb1⟩
        have hB1 := Lib.hid (bnext HB.out hb1)
        clear hb1 d0 d1
        go_wp2_with fail
        go_roundw
        case rel => exact ⟨k + 1, by omega, by go_num, E.out, hB1.out⟩
        case measure => simp [intOf]; omega
    · obtain rfl : k = l.length := by omega
      go_wp2_with fail
      go_ret
      exact ⟨ret_int (by rw [← RI.out, if_neg (by have := HF.out; omega)]), HB.out⟩

set_option maxHeartbeats 1000000 in
theorem cont_any (l : List Rg) (n : Int) (v : Value) (g : Nat) (w : World) (hS : RgsAt w v l) (hg : g < w.heap.size) (c0 : w.cell? ⟨g, 0, none⟩ = some (.int .u64 n)) :
    Calls Try.prog 118 #[v, .func (.func 119) #[] #[.pointer (some ⟨g, 0, none⟩)]] w (RetB (inR l n) w) := by
  have HI := Lib.hid (ridx_any l n v g w hS hg c0)
  obtain ⟨A, c, rfl⟩ := hS.form
  by_cases h : rix l n < l.length
  · have R := Lib.hid (rix_lt.1 h)
    rw [if_pos h] at HI
    obtain ⟨k, hk⟩ : ∃ k, rix l n = k := ⟨_, rfl⟩
    rw [hk] at HI
    have hk0 : ((k : Int) ≥ 0) := by omega
    clear h hk hS c0
    go_enter Try.func118, Try.ntmps118
    go_wp2_with fail
    refine HI.out.mono ?_
    rintro e w1 ⟨rfl, hb1⟩
    clear HI
    go_wp2_with fail
    go_ret
    exact ⟨by rw [R.out]; simp, hb1⟩
  · have R : Hid (inR l n = false) := Lib.hid (by rw [Bool.eq_false_iff]; exact fun c => h (rix_lt.2 c))
    rw [if_neg h] at HI
    clear h hS c0
    go_enter Try.func118, Try.ntmps118
    go_wp2_with fail
    refine HI.out.mono ?_
    rintro e w1 ⟨rfl, hb1⟩
    clear HI
    go_wp2_with fail
    go_ret
    exact ⟨by rw [R.out]; rfl, hb1⟩

set_option maxHeartbeats 1000000 in
theorem rin_any (l : List Rg) (n : Int) (v : Value) (w : World) (hS : RgsAt w v l) :
    Calls Try.prog 104 #[v, .int .u64 n] w (RetB (inR l n) w) := by
  have HS := Lib.hid hS
  obtain ⟨A, c, rfl⟩ := hS.form
  clear hS
  go_enter Try.func104, Try.ntmps104
  go_wp2_with fail
  refine (cont_any l n _ w.heap.size _ (RgsAt.below HS.out (bal (Below.refl _ _) _)) (by simp) (by rw [newcell]; rfl)).mono ?_
  rintro e w1 ⟨rfl, hb1⟩
  have hB1 := bnext (bal (Below.refl w.heap.size w) (.cells #[.int .u64 n] 22)) hb1
  clear hb1 HS
  go_wp2_with fail
  go_ret
  exact ⟨rfl, hB1⟩
end Go.Proofs.Ytfgkkflbpfocjaa

