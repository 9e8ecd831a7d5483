/- Contracts on the way to this seat's statements; what each theorem says stands in its type. -/
import Derived.Test.YtblfdikjimagjaaW13
namespace Go.Proofs.Ytblfdikjimagjaa
set_option linter.unusedVariables false
open Go.RowKit

theorem IntsAt.keep {w w' : World} {v : Value} {xs : List Int} (h : IntsAt w v xs) (hs : w.heap.size ≤ w'.heap.size) (hb : ∀ b o, b < w.heap.size → w'.cell? ⟨b, o, none⟩ = w.cell? ⟨b, o, none⟩) : IntsAt w' v xs := by
  obtain ⟨A, c, rfl, hc, hA⟩ := h
  refine ⟨A, c, rfl, hc, fun hp => ?_⟩
  obtain ⟨b, o, rfl, hlt, hx⟩ := hA hp
  exact ⟨b, o, rfl, by omega, fun k x hk => (hb _ _ hlt).trans (hx k x hk)⟩
theorem IntsAt.below {w w' : World} {v : Value} {xs : List Int} (h : IntsAt w v xs) (hb : Below w.heap.size w w') : IntsAt w' v xs := h.keep hb.size fun b o hlt => hb.cell (p := ⟨b, o, none⟩) hlt
theorem IntsAt.alloc {w : World} {v : Value} {xs : List Int} (h : IntsAt w v xs) (o : Obj) : IntsAt (w.alloc o) v xs := h.below ((Below.refl _ _).alloc (Nat.le_refl _) o)
theorem IntsAt.lit (w : World) (xs : List Int) : IntsAt (w.alloc (.cells (xs.map (Value.int .i64)).toArray 3)) (.slice (some ⟨w.heap.size, 0, none⟩) xs.length xs.length) xs := by
  refine ⟨_, _, rfl, Nat.le_refl _, fun _ => ⟨_, _, rfl, by simp, fun k x hk => ?_⟩⟩
  rw [Nat.zero_add, cell_of_row _ w.heap.size k _ 3 (0, 0) (World.alloc_heap_new w _)]
  simp [hk]

def RetT (w : World) (e : Ending) (w' : World) : Prop := e = .returned (.bool true) ∧ Below w.heap.size w w'

theorem waits_t (k v : Int) (w : World) (g1 : waitE 4 20 k = 0) (g2 : waitV 4 20 k = v) :
    Calls Try.prog 26 #[.int .i64 k, .int .i64 v] w (RetT w) := by
  have G1 := Lib.hid g1
  have G2 := Lib.hid g2
  clear g1 g2
  go_enter Try.func26, Try.ntmps26
  go_wp2_with fail
  refine (Wait_any 4 20 k _).mono ?_
  rintro e w' ⟨rfl, hb⟩
  rw [G1.out, G2.out]
  go_wp2
  go_ret
  exact ⟨rfl, (by repeat (first | exact Below.refl _ _ | refine Below.drew ?_ | refine below_drewN ?_ _ | refine bal ?_ _ | refine bnext ?_ (by assumption) | refine bset ?_ (by simp) _))⟩

theorem time_t (k v : Int) (w : World) (g1 : timeE 4 20 100 k = 0) (g2 : timeV 4 20 100 k = v) :
    Calls Try.prog 27 #[.int .i64 k, .int .i64 v] w (RetT w) := by
  have G1 := Lib.hid g1
  have G2 := Lib.hid g2
  clear g1 g2
  go_enter Try.func27, Try.ntmps27
  go_wp2_with fail
  refine (Time_any 4 20 100 k _).mono ?_
  rintro e w' ⟨rfl, hb⟩
  rw [G1.out, G2.out]
  go_wp2
  go_ret
  exact ⟨rfl, (by repeat (first | exact Below.refl _ _ | refine Below.drew ?_ | refine below_drewN ?_ _ | refine bal ?_ _ | refine bnext ?_ (by assumption) | refine bset ?_ (by simp) _))⟩

theorem counts_t (k v : Int) (w : World) (g1 : cntE 4 20 100 k = 0) (g2 : cntV 4 20 100 k = v) :
    Calls Try.prog 28 #[.int .i64 k, .int .i64 v] w (RetT w) := by
  have G1 := Lib.hid g1
  have G2 := Lib.hid g2
  clear g1 g2
  go_enter Try.func28, Try.ntmps28
  go_wp2_with fail
  refine (Count_any 4 20 100 k _).mono ?_
  rintro e w' ⟨rfl, hb⟩
  rw [G1.out, G2.out]
  go_wp2
  go_ret
  exact ⟨rfl, (by repeat (first | exact Below.refl _ _ | refine Below.drew ?_ | refine below_drewN ?_ _ | refine bal ?_ _ | refine bnext ?_ (by assumption) | refine bset ?_ (by simp) _))⟩

theorem next_t (k v : Int) (w : World) (g1 : nextE 4 20 100 k = 0) (g2 : nextV 4 20 100 k = v) :
    Calls Try.prog 29 #[.int .i64 k, .int .i64 v] w (RetT w) := by
  have G1 := Lib.hid g1
  have G2 := Lib.hid g2
  clear g1 g2
  go_enter Try.func29, Try.ntmps29
  go_wp2_with fail
  refine (Next_any 4 20 100 k _).mono ?_
  rintro e w' ⟨rfl, hb⟩
  rw [G1.out, G2.out]
  go_wp2
  go_ret
  exact ⟨rfl, (by repeat (first | exact Below.refl _ _ | refine Below.drew ?_ | refine below_drewN ?_ _ | refine bal ?_ _ | refine bnext ?_ (by assumption) | refine bset ?_ (by simp) _))⟩

theorem ex_times : timesL 4 20 100 128 = [104, 112, 128] := by decide +kernel
theorem ex_timesE : timesE 4 20 100 128 = 0 := by decide +kernel
theorem ex_due : dueV 4 20 100 112 = true := by decide +kernel
theorem ex_dueE : cntE 4 20 100 112 = 0 := by decide +kernel

set_option maxHeartbeats 1000000 in
theorem awake_t (w : World) : Calls Try.prog 16 #[] w (RetT w) := by
  go_enter Try.func16, Try.ntmps16
  go_wp2_with fail
  refine (Times_any 4 20 100 128 _).mono ?_
  rintro e w1 ⟨v, rfl, hown, hb⟩
  rw [ex_timesE]
  rw [ex_times] at hown
  have hv := ints_own hown
  go_wp2_with fail
  refine (Due_any 4 20 100 112 _).mono ?_
  rintro e w2 ⟨rfl, hb2⟩
  rw [ex_due, ex_dueE]
  go_wp2_with fail
  refine (waits_t 1 8 _ (by decide +kernel) (by decide +kernel)).mono ?_
  rintro e w3 ⟨rfl, hb3⟩
  go_wp2_with fail
  refine (time_t 1 112 _ (by decide +kernel) (by decide +kernel)).mono ?_
  rintro e w4 ⟨rfl, hb4⟩
  go_wp2_with fail
  refine (same_any _ _ [104, 112, 128] [104, 112, 128] _ ((((hv.below hb2).below hb3).below hb4).alloc _) (IntsAt.lit w4 [104, 112, 128]) (by simp) (by simp)).mono ?_
  rintro e w5 ⟨rfl, hb5⟩
  go_wp2
  go_ret
  exact ⟨rfl, (by repeat (first | exact Below.refl _ _ | refine Below.drew ?_ | refine below_drewN ?_ _ | refine bal ?_ _ | refine bnext ?_ (by assumption) | refine bset ?_ (by simp) _))⟩
