/- Contracts: the filter of claims; given, active. -/
import Derived.Test.YtlpdebbedoibiaaD
namespace Go.Proofs.Ytlpdebbedoibiaa
open Go.RowKit
set_option linter.unusedVariables false
set_option linter.unusedSimpArgs false

set_option maxRecDepth 100000 in
set_option maxHeartbeats 2000000 in
theorem filterCl_any (l : List Cl) (v : Value) (w : World) (hS : ClAt w v l) (hl : l.length ≤ 100000) :
    Calls Try.prog 49 #[v, .func (.func 50) #[] #[]] w (RetCl (l.filter Cl.act) w) := by
  obtain ⟨A, c, rfl, hc1, hc2, hR⟩ := hS
  unfold maxLen at hc2
  have HR := Lib.hid hR
  clear hR
  go_enter Try.func49, Try.ntmps49
  go_wp2_with fail
  go_loopw [5, 10] (fun s a wr => ∃ k : Nat, k ≤ l.length ∧ a = .int .i64 k ∧ OwnCl w wr s ((l.take k).filter Cl.act) ∧ Below w.heap.size w wr) (fun _ a _ => l.length - (intOf a).toNat)
  case atStart => exact ⟨0, by omega, rfl, World.ownsRow_nil _ _ _ _, Below.refl _ _⟩
  case round =>
    obtain ⟨k, hk, rfl, hO, hB⟩ := hrel
    obtain ⟨A1, c1, rfl⟩ := own_form hO
    have HO := Lib.hid hO
    clear hO
    by_cases hlt : k < l.length
    · obtain ⟨x, hx⟩ : ∃ x, l[k]? = some x := ⟨_, List.getElem?_eq_getElem hlt⟩
      obtain ⟨b, o, rfl, hb, d0, d1, d2, d3⟩ := reads_fl4 cl4 (HR.out.keep hB.size fun b o h => hB.cell (p := ⟨b, o, none⟩) h) rfl hx (by rfl : x.cells = [_, _, _, _])
      have hi : (k : Int) < l.length := by omega
      have HT := hidI (filter_take (p := Cl.act) hx)
      have hlen := filter_take_len Cl.act l k
      clear hx
      go_wp2_with fail
      refine (act_any x _).mono ?_
      rintro e w1 ⟨rfl, hb1⟩
      have k1 := (Blk.new wr 27 #[.int .i64 x.node, .int .u64 x.res, .bool x.sure, .bool x.opn]).below hb1
      have hB1 : Below w.heap.size w w1 := bnext (bal hB _) hb1
      have HO1 := Lib.hid (own_below hb1 (HO.out.alloc _))
      have hz1 := hB1.size
      by_cases hp : x.act = true
      · have P := Lib.hid hp
        rw [P.out]
        have e0 := k1.cell 0
        have e1 := k1.cell 1
        have e2 := k1.cell 2
        have e3 := k1.cell 3
        clear hp k1 HO
        go_wp2_with (first
          | (at_builtin; refine wpList_app1 (f := Cl.cells) rfl _ _ 24 rfl w.heap.size 27 4 24 infoCl rfl (by decide) Try.underlying24 cl4 cl_one w1 w w.heap.size x ((l.take k).filter Cl.act) _ (by rfl) (by rfl) HO1.out hB1 (Nat.le_refl _) hz1 (by omega) (by unfold maxLen; omega) ?_; intro A2 c2 w2 hown hB2 _; have HO2 := Lib.hid hown; clear hown))
        go_roundw
        case rel => exact ⟨k + 1, by omega, by go_num, by rw [HT.out, if_pos P.out]; exact HO2.out, hB2⟩
        case measure => simp [intOf]; omega
      · have P : Hid (x.act = false) := hidI (by simpa using hp)
        rw [P.out]
        clear hp
        go_wp2_with fail
        go_roundw
        case rel => exact ⟨k + 1, by omega, by go_num, by rw [HT.out, if_neg (by rw [P.out]; decide)]; exact HO1.out, hB1⟩
        case measure => simp [intOf]; omega
    · obtain rfl : k = l.length := by omega
      have HT : Hid (l.take l.length = l) := hidI (List.take_of_length_le (Nat.le_refl _))
      go_wp2_with fail
      go_ret
      exact ⟨A1, c1, by rw [HT.out]; rfl, by have := HO.out; rwa [HT.out] at this, hB⟩

theorem own_form_at {w : World} {base : Nat} {e : TypeId} {size n : Nat} {v : Value} {xs : List Value} (h : w.ownsRow base e size v n xs) : ∃ A c, v = .slice A n c := own_form h
set_option maxHeartbeats 1000000 in
theorem given_any (l : List Sh) (v : Value) (w : World) (hS : ShAt w v l) (hl : l.length ≤ 100000) :
    Calls Try.prog 46 #[v] w (RetSh (l.filter Sh.pos) w) := by
  have HS := Lib.hid hS
  clear hS
  go_enter Try.func46, Try.ntmps46
  go_wp2_with fail
  refine (filterSh_any l v w HS.out hl).mono ?_
  rintro e w1 ⟨A, c, rfl, ho, hb⟩
  go_wp2_with fail
  go_ret
  exact ⟨A, c, rfl, ho, hb⟩
set_option maxHeartbeats 1000000 in
theorem active_any (l : List Cl) (v : Value) (w : World) (hS : ClAt w v l) (hl : l.length ≤ 100000) :
    Calls Try.prog 36 #[v] w (RetCl (l.filter Cl.act) w) := by
  have HS := Lib.hid hS
  clear hS
  go_enter Try.func36, Try.ntmps36
  go_wp2_with fail
  refine (filterCl_any l v w HS.out hl).mono ?_
  rintro e w1 ⟨A, c, rfl, ho, hb⟩
  go_wp2_with fail
  go_ret
  exact ⟨A, c, rfl, ho, hb⟩
end Go.Proofs.Ytlpdebbedoibiaa
