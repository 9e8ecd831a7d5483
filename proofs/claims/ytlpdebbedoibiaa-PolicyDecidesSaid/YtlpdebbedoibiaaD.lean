/- Contracts: filters. -/
import Derived.Test.YtlpdebbedoibiaaC
namespace Go.Proofs.Ytlpdebbedoibiaa
open Go.RowKit
set_option linter.unusedVariables false
set_option linter.unusedSimpArgs false

theorem infoCl : (Try.prog.info? 27).map (fun i => (i.zero, i.size, i.bytes)) = some (some (.agg #[.int .i64 0, .int .u64 0, .bool false, .bool false]), 4, 24) := by kernel_rfl
theorem infoSh : (Try.prog.info? 58).map (fun i => (i.zero, i.size, i.bytes)) = some (some (.agg #[.int .i64 0, .int .u64 0]), 2, 16) := by kernel_rfl
theorem cl_one (c : Cl) : ∀ u ∈ c.cells, u.oneCell' = true := by
  intro u hu
  simp [Cl.cells] at hu
  rcases hu with rfl | rfl | rfl | rfl <;> rfl
theorem sh_one (c : Sh) : ∀ u ∈ c.cells, u.oneCell' = true := by
  intro u hu
  simp [Sh.cells] at hu
  rcases hu with rfl | rfl <;> rfl
def OwnCl (w w' : World) (v : Value) (l : List Cl) : Prop := w'.ownsRow w.heap.size 27 4 v l.length (fl Cl.cells l)
def OwnSh (w w' : World) (v : Value) (l : List Sh) : Prop := w'.ownsRow w.heap.size 58 2 v l.length (fl Sh.cells l)
def RetSh (l : List Sh) (w : World) (e : Ending) (w' : World) : Prop := ∃ A c, e = .returned (.slice A l.length c) ∧ OwnSh w w' (.slice A l.length c) l ∧ Below w.heap.size w w'
def RetCl (l : List Cl) (w : World) (e : Ending) (w' : World) : Prop := ∃ A c, e = .returned (.slice A l.length c) ∧ OwnCl w w' (.slice A l.length c) l ∧ Below w.heap.size w w'
theorem own_form {w : World} {base : Nat} {e : TypeId} {size n : Nat} {v : Value} {xs : List Value} (h : w.ownsRow base e size v n xs) : ∃ A c, v = .slice A n c := by
  obtain ⟨A, c, rfl, _⟩ := SlAt.own h
  exact ⟨A, c, rfl⟩

def Sh.pos (x : Sh) : Bool := decide (0 < x.bytes)
def Cl.act (c : Cl) : Bool := c.sure && c.opn
theorem pos_any (x : Sh) (w : World) : Calls Try.prog 54 #[.agg #[.int .i64 x.node, .int .u64 x.bytes]] w (RetB x.pos w) := by
  go_enter Try.func54, Try.ntmps54
  go_wp2_with fail
  go_ret
  exact ⟨rfl, (by repeat (first | with_reducible exact Below.refl _ _ | with_reducible refine Below.drew ?_ | with_reducible refine below_drewN ?_ _ | with_reducible refine bal ?_ _ | with_reducible refine bset ?_ (by first | (simp; done) | (simp; omega)) _ | with_reducible refine bnext ?_ (by assumption) | with_reducible assumption))⟩
theorem act_any (c : Cl) (w : World) : Calls Try.prog 50 #[.agg #[.int .i64 c.node, .int .u64 c.res, .bool c.sure, .bool c.opn]] w (RetB c.act w) := by
  obtain ⟨n, r, s, o⟩ := c
  cases s
  · go_enter Try.func50, Try.ntmps50
    go_wp2_with fail
    go_ret
    exact ⟨rfl, (by repeat (first | with_reducible exact Below.refl _ _ | with_reducible refine Below.drew ?_ | with_reducible refine below_drewN ?_ _ | with_reducible refine bal ?_ _ | with_reducible refine bset ?_ (by first | (simp; done) | (simp; omega)) _ | with_reducible refine bnext ?_ (by assumption) | with_reducible assumption))⟩
  · go_enter Try.func50, Try.ntmps50
    go_wp2_with fail
    go_ret
    exact ⟨rfl, (by repeat (first | with_reducible exact Below.refl _ _ | with_reducible refine Below.drew ?_ | with_reducible refine below_drewN ?_ _ | with_reducible refine bal ?_ _ | with_reducible refine bset ?_ (by first | (simp; done) | (simp; omega)) _ | with_reducible refine bnext ?_ (by assumption) | with_reducible assumption))⟩

theorem filter_take {α : Type} {p : α → Bool} {l : List α} {k : Nat} {x : α} (h : l[k]? = some x) : (l.take (k + 1)).filter p = if p x = true then (l.take k).filter p ++ [x] else (l.take k).filter p := by
  obtain ⟨hk, rfl⟩ := List.getElem?_eq_some_iff.1 h
  rw [List.take_succ_eq_append_getElem hk, List.filter_append]
  by_cases hp : p l[k] = true
  · rw [if_pos hp]; simp [hp]
  · rw [if_neg hp]; simp [hp]
theorem filter_take_len {α : Type} (p : α → Bool) (l : List α) (k : Nat) : ((l.take k).filter p).length ≤ k :=
  Nat.le_trans (List.length_filter_le _ _) (List.length_take_le _ _)

set_option maxRecDepth 100000 in
set_option maxHeartbeats 2000000 in
theorem filterSh_any (l : List Sh) (v : Value) (w : World) (hS : ShAt w v l) (hl : l.length ≤ 100000) :
    Calls Try.prog 53 #[v, .func (.func 54) #[] #[]] w (RetSh (l.filter Sh.pos) w) := by
  obtain ⟨A, c, rfl, hc1, hc2, hR⟩ := hS
  unfold maxLen at hc2
  have HR := Lib.hid hR
  clear hR
  go_enter Try.func53, Try.ntmps53
  go_wp2_with fail
  go_loopw [5, 10] (fun s a wr => ∃ k : Nat, k ≤ l.length ∧ a = .int .i64 k ∧ OwnSh w wr s ((l.take k).filter Sh.pos) ∧ Below w.heap.size w wr) (fun _ a _ => l.length - (intOf a).toNat)
  case atStart => exact ⟨0, by omega, rfl, World.ownsRow_nil _ _ _ _, Below.refl _ _⟩
  case round =>
    obtain ⟨k, hk, rfl, hO, hB⟩ := hrel
    obtain ⟨A1, c1, rfl⟩ := own_form hO
    have HO := Lib.hid hO
    clear hO
    by_cases hlt : k < l.length
    · obtain ⟨x, hx⟩ : ∃ x, l[k]? = some x := ⟨_, List.getElem?_eq_getElem hlt⟩
      obtain ⟨b, o, rfl, hb, d0, d1⟩ := reads_fl2 sh2 (HR.out.keep hB.size fun b o h => hB.cell (p := ⟨b, o, none⟩) h) rfl hx (by rfl : x.cells = [_, _])
      have hi : (k : Int) < l.length := by omega
      have HT := hidI (filter_take (p := Sh.pos) hx)
      have hlen := filter_take_len Sh.pos l k
      clear hx
      go_wp2_with fail
      refine (pos_any x _).mono ?_
      rintro e w1 ⟨rfl, hb1⟩
      have k1 := (Blk.new wr 58 #[.int .i64 x.node, .int .u64 x.bytes]).below hb1
      have hB1 : Below w.heap.size w w1 := bnext (bal hB _) hb1
      have HO1 := Lib.hid (own_below hb1 (HO.out.alloc _))
      have hz1 := hB1.size
      by_cases hp : x.pos = true
      · have P := Lib.hid hp
        rw [P.out]
        have e0 := k1.cell 0
        have e1 := k1.cell 1
        clear hp k1 HO
        go_wp2_with (first
          | (at_builtin; refine wpList_app1 (f := Sh.cells) rfl _ _ 28 rfl w.heap.size 58 2 16 infoSh rfl (by decide) Try.underlying28 sh2 sh_one w1 w w.heap.size x ((l.take k).filter Sh.pos) _ (by rfl) (by rfl) HO1.out hB1 (Nat.le_refl _) hz1 (by omega) (by unfold maxLen; omega) ?_; intro A2 c2 w2 hown hB2 _; have HO2 := Lib.hid hown; clear hown))
        go_roundw
        case rel => exact ⟨k + 1, by omega, by go_num, by rw [HT.out, if_pos P.out]; exact HO2.out, hB2⟩
        case measure => simp [intOf]; omega
      · have P : Hid (x.pos = false) := hidI (by simpa using hp)
        rw [P.out]
        clear hp
        go_wp2_with fail
        go_roundw
        case rel => exact ⟨k + 1, by omega, by go_num, by rw [HT.out, if_neg (by rw [P.out]; decide)]; exact HO1.out, hB1⟩
        case measure => simp [intOf]; omega
    · obtain rfl : k = l.length := by omega
      have HT : Hid (l.take l.length = l) := hidI (List.take_of_length_le (Nat.le_refl _))
      go_wp2_with fail
      go_ret
      exact ⟨A1, c1, by rw [HT.out]; rfl, by have := HO.out; rwa [HT.out] at this, hB⟩
end Go.Proofs.Ytlpdebbedoibiaa
