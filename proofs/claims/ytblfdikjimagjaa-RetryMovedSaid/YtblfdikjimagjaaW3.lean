/- Contracts on the way to this seat's statements; what each theorem says stands in its type. -/
import Derived.Test.YtblfdikjimagjaaW2
import Derived.Test.YtblfdikjimagjaaPlain2
import Derived.Deep.RegionWith
import Derived.IntWalk
namespace Go.Proofs.Ytblfdikjimagjaa
set_option linter.unusedVariables false
open Go.RowKit

theorem sum_i (f m n : Int) (w : World) (ok : Okc f m) (hn : 0 ≤ n) (hn2 : n ≤ 1099511627777) :
    Calls Try.prog 32 #[.agg #[.int .i64 f, .int .i64 m], .int .i64 n] w fun e w' => e = .returned (.int .i64 (sm m f n.toNat)) ∧ Below w.heap.size w w' := by
  obtain ⟨N, rfl⟩ := Int.eq_ofNat_of_zero_le hn
  exact sum_any f m N w ok.1 ok.2.1 ok.2.2.1 ok.2.2.2 hn2

theorem bcell {W w1 : World} (hb : Below W.heap.size W w1) : (∀ b o, b < W.heap.size → w1.cell? ⟨b, o, none⟩ = W.cell? ⟨b, o, none⟩) ∧ (∀ b o, b < W.heap.size → w1.frozen? ⟨b, o, none⟩ = W.frozen? ⟨b, o, none⟩) :=
  ⟨fun b o h => hb.cell (p := ⟨b, o, none⟩) h, fun b o h => hb.frozen (p := ⟨b, o, none⟩) h⟩

theorem bnext {w W w' : World} (h : Below w.heap.size w W) (hb : Below W.heap.size W w') : Below w.heap.size w w' := h.trans (hb.mono h.size)
theorem bal {w W : World} (h : Below w.heap.size w W) (o : Obj) : Below w.heap.size w (W.alloc o) := h.alloc h.size o
theorem bset {w W : World} (h : Below w.heap.size w W) {p : Addr} (hp : w.heap.size ≤ p.block) (u : Value) : Below w.heap.size w (W.setCell p u) := h.setCell hp u

def Ret2 (a b : Int) (w : World) (e : Ending) (w' : World) : Prop := e = .returned (.tuple #[.int .i64 a, .int .i64 b]) ∧ Below w.heap.size w w'
def RetB (a : Bool) (b : Int) (w : World) (e : Ending) (w' : World) : Prop := e = .returned (.tuple #[.bool a, .int .i64 b]) ∧ Below w.heap.size w w'
def RetI (a : Int) (w : World) (e : Ending) (w' : World) : Prop := e = .returned (.int .i64 a) ∧ Below w.heap.size w w'

theorem chk_ok {f m : Int} (h : Okc f m) (w : World) :
    Calls Try.prog 14 #[.int .i64 f, .int .i64 m] w fun e w' => e = .returned (.int .i64 0) ∧ w = w' := check_ok f m w h.1 h.2.1 h.2.2.1 h.2.2.2
theorem chk_no {f m : Int} (h : ¬ Okc f m) (w : World) :
    Calls Try.prog 14 #[.int .i64 f, .int .i64 m] w fun e w' => e = .returned (.int .i64 2) ∧ w = w' := check_no f m w h
theorem rchk_ok {f m : Int} (h : Okc f m) (w : World) :
    Calls Try.prog 15 #[.int .i64 f, .int .i64 m] w fun e w' => e = .returned (.int .i64 0) ∧ w = w' := refcheck_ok f m w h.1 h.2.1 h.2.2.1 h.2.2.2
theorem rchk_no {f m : Int} (h : ¬ Okc f m) (w : World) :
    Calls Try.prog 15 #[.int .i64 f, .int .i64 m] w fun e w' => e = .returned (.int .i64 2) ∧ w = w' := refcheck_no f m w h
theorem tk_ok {n : Int} (h : Tick n) (w : World) : Calls Try.prog 31 #[.int .i64 n] w fun e w' => e = .returned (.bool true) ∧ w = w' := tick_yes n w h.1 h.2
theorem tk_no {n : Int} (h : ¬ Tick n) (w : World) : Calls Try.prog 31 #[.int .i64 n] w fun e w' => e = .returned (.bool false) ∧ w = w' := tick_no n w (by unfold Tick at h; omega)

set_option maxHeartbeats 400000 in
theorem Wait_any (f m k : Int) (w : World) : Calls Try.prog 10 #[.int .i64 f, .int .i64 m, .int .i64 k] w (Ret2 (waitV f m k) (waitE f m k) w) := by
  by_cases hc : Okc f m
  · by_cases hk : Tick k
    · have H1 : Hid (waitV f m k = wv m f k.toNat) := if_pos ⟨hc, hk⟩
      have H2 : Hid (waitE f m k = 0) := if_pos ⟨hc, hk⟩
      have k1 := hk.1
      have k2 := hk.2
      have p1 : 0 ≤ k + 1 := by omega
      have p2 : k + 1 ≤ 1099511627777 := by omega
      have p3 : k ≤ 1099511627777 := by omega
      go_enter Try.func10, Try.ntmps10
      go_wp2_with (first | (go_at_call 14; refine (chk_ok hc _).mono ?_; rintro e w' ⟨rfl, rfl⟩) | (go_at_call 31; refine (tk_ok hk _).mono ?_; rintro e w' ⟨rfl, rfl⟩))
      have E : Hid (IntKind.i64.wrap (sm m f (k + 1).toNat - sm m f k.toNat) = wv m f k.toNat) := by
        have e : (k + 1).toNat = k.toNat + 1 := by omega
        have b := wv_bd hc.1 hc.2.2.1 k.toNat
        have c := hc.2.2.2
        have d := hc.1
        have s : sm m f (k.toNat + 1) = sm m f k.toNat + wv m f k.toNat := rfl
        have z : sm m f (k.toNat + 1) - sm m f k.toNat = wv m f k.toNat := by omega
        rw [e, z]
        exact IntWalk.i64_in _ (by omega)
      have hw : IntKind.i64.wrap (k + 1) = k + 1 := IntWalk.i64_in _ (by omega)
      go_region_with (go_at_call 32; refine (sum_i _ _ _ _ hc (by assumption) (by assumption)).mono ?_; rintro e w' ⟨rfl, hb⟩; have hcf := (bcell hb).1; have hz := hb.size; try simp at hz)
      all_goals
        go_wp2
        go_ret2
        refine ⟨?_, (by repeat (first | exact Below.refl _ _ | refine Below.drew ?_ | refine below_drewN ?_ _ | refine bal ?_ _ | refine bnext ?_ (by assumption) | refine bset ?_ (by simp) _))⟩
        show Ending.returned (.tuple #[.int .i64 (IntKind.i64.wrap (sm m f (k + 1).toNat - sm m f k.toNat)), .int .i64 0]) = _
        rw [H1.out, H2.out, E.out]
    · have H1 : Hid (waitV f m k = 0) := if_neg (fun h => hk h.2)
      have H2 : Hid (waitE f m k = 2) := if_neg (fun h => hk h.2)
      go_enter Try.func10, Try.ntmps10
      go_wp2_with (first | (go_at_call 14; refine (chk_ok hc _).mono ?_; rintro e w' ⟨rfl, rfl⟩) | (go_at_call 31; refine (tk_no hk _).mono ?_; rintro e w' ⟨rfl, rfl⟩))
      go_ret2
      exact ⟨by rw [H1.out, H2.out]; rfl, (by repeat (first | exact Below.refl _ _ | refine Below.drew ?_ | refine below_drewN ?_ _ | refine bal ?_ _ | refine bnext ?_ (by assumption) | refine bset ?_ (by simp) _))⟩
  · have H1 : Hid (waitV f m k = 0) := if_neg (fun h => hc h.1)
    have H2 : Hid (waitE f m k = 2) := if_neg (fun h => hc h.1)
    go_enter Try.func10, Try.ntmps10
    go_wp2_with (first | (go_at_call 14; refine (chk_no hc _).mono ?_; rintro e w' ⟨rfl, rfl⟩))
    go_ret2
    exact ⟨by rw [H1.out, H2.out]; rfl, (by repeat (first | exact Below.refl _ _ | refine Below.drew ?_ | refine below_drewN ?_ _ | refine bal ?_ _ | refine bnext ?_ (by assumption) | refine bset ?_ (by simp) _))⟩
