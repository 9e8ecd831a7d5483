/- What a ledger made of numbers always is. Rows that a function owns: small laws. Contract: a ledger made of numbers. What a receiver's ledger made of numbers always is. Contract: a receiver's ledger made of numbers. The laws of a meeting twice; no program in sight. A peer made of numbers. -/
import Derived.Test.YtfgkkflbpfocjaaZ3
import Derived.Test.YtfgkkflbpfocjaaZ12
import Derived.Deep.RegionLaw
import Derived.Deep.AppendLies
import Derived.Test.YtfgkkflbpfocjaaZ1
import Derived.Test.YtfgkkflbpfocjaaZ7
namespace Go.Proofs.Ytfgkkflbpfocjaa
set_option linter.unusedVariables false
set_option linter.unusedSimpArgs false

/-- a ledger behind i rounds -/
def LedI (i : Nat) (s : Led) : Prop := (200 ≤ s.g ∧ s.g ≤ 200 + 40 * i) ∧ 0 ≤ s.n ∧ 0 ≤ s.r ∧ s.n + s.r ≤ s.g ∧ s.sl.length ≤ i ∧
  (∀ x ∈ s.sl, (0 ≤ x.off ∧ x.off ≤ 1000) ∧ (0 ≤ x.size ∧ x.size ≤ 1000) ∧ x.node = 1 ∧ (1 ≤ x.seq ∧ x.seq ≤ i) ∧ x.io = 0) ∧ Good s.n [] 0 s.sl
theorem ledI_zero : LedI 0 ⟨200, 0, 0, []⟩ := ⟨by decide, by decide, by decide, by decide, by decide, by simp, trivial⟩
theorem ledI_next {i : Nat} {s : Led} (h : LedI i s) : LedI (i + 1) s := by
  obtain ⟨a, b, c, d, e, f, g⟩ := h
  refine ⟨by omega, b, c, d, by omega, fun x hx => ?_, g⟩
  obtain ⟨p, q, r, t, u⟩ := f x hx
  exact ⟨p, q, r, by omega, u⟩
theorem ledI_add {i : Nat} {g n r : Int} {l : List Sl} (h : LedI i ⟨g, n, r, l⟩) (hi : i < 12) {z : Int} (h1 : 1 ≤ z) (h2 : z ≤ 40) (hz : z ≤ g - n - r) : LedI (i + 1) ⟨g, n + z, r, l ++ [⟨n, z, 1, i + 1, 0⟩]⟩ := by
  obtain ⟨a, b, c, d, e, f, k⟩ := h
  dsimp only at *
  refine ⟨by show 200 ≤ g ∧ g ≤ 200 + 40 * ((i + 1 : Nat) : Int); omega, by show 0 ≤ n + z; omega, c, by show n + z + r ≤ g; omega, by simp; omega, fun x hx => ?_, ?_⟩
  · rcases List.mem_append.1 hx with hx | hx
    · obtain ⟨p, q, r, t, u⟩ := f x hx
      exact ⟨p, q, r, by omega, u⟩
    · have := List.mem_singleton.1 hx
      subst this
      exact ⟨⟨b, by show n ≤ 1000; omega⟩, ⟨by show 0 ≤ z; omega, by show z ≤ 1000; omega⟩, rfl, ⟨by show (1 : Int) ≤ (i : Int) + 1; omega, by show (i : Int) + 1 ≤ ((i + 1 : Nat) : Int); omega⟩, rfl⟩
  · refine good_end k b (by show n ≤ n + z; omega) (slotE_zero.2 ⟨by show z ≠ 0; omega, ⟨by show (1 : Int) ≤ 1; decide, by show (1 : Int) ≤ 16; decide, by show (0 : Int) ≤ 0; decide, by show (0 : Int) ≤ 19999; decide, by show (i : Int) + 1 ≤ _; omega⟩, Int.le_refl _, by show n ≤ n + z; omega, by show z ≤ n + z - n; omega, ?_⟩)
    simp only [List.nil_append, anyHas, List.any_eq_false]
    intro x hx
    obtain ⟨p, q, r, t, u⟩ := f x hx
    simp only [Sl.has, Bool.and_eq_true, beq_iff_eq]
    rintro ⟨⟨_, h⟩, _⟩
    have h : x.seq = (i : Int) + 1 := h
    omega
theorem ledI_more {i : Nat} {g n r : Int} {l : List Sl} (h : LedI i ⟨g, n, r, l⟩) {z : Int} (h1 : 1 ≤ z) (h2 : z ≤ 40) : LedI (i + 1) ⟨g + z, n, r, l⟩ := by
  obtain ⟨a, b, c, d, e, f, k⟩ := ledI_next h
  obtain ⟨a', _⟩ := h
  dsimp only at *
  exact ⟨by show 200 ≤ g + z ∧ g + z ≤ _; omega, b, c, by show n + r ≤ g + z; omega, e, f, k⟩
theorem ledI_back {i : Nat} {g n r : Int} {l : List Sl} (h : LedI i ⟨g, n, r, l⟩) {z : Int} (h1 : 0 ≤ z) (h2 : z ≤ g - n - r) : LedI (i + 1) ⟨g, n, r + z, l⟩ := by
  obtain ⟨a, b, c, d, e, f, k⟩ := ledI_next h
  dsimp only at *
  exact ⟨a, b, by show 0 ≤ r + z; omega, by show n + (r + z) ≤ g; omega, e, f, k⟩
theorem ledI_del {i : Nat} {g n r : Int} {l : List Sl} (h : LedI i ⟨g, n, r, l⟩) (k : Nat) : LedI (i + 1) ⟨g, n, r, l.take k ++ l.drop (k + 1)⟩ := by
  rw [← List.eraseIdx_eq_take_drop_succ]
  obtain ⟨a, b, c, d, e, f, q⟩ := ledI_next h
  dsimp only at *
  refine ⟨a, b, c, d, Nat.le_trans (List.length_eraseIdx_le _ _) e, fun x hx => f x (List.mem_of_mem_eraseIdx hx), good_erase q (fun x hx => (f x hx).2.1.1) k⟩
theorem ledI_len {i : Nat} {s : Led} (h : LedI i s) : s.sl.length ≤ i := h.2.2.2.2.1
theorem ledI_ok {i : Nat} {s : Led} (h : LedI i s) (hi : i ≤ 12) : okL s ∧ Wf s := by
  obtain ⟨a, b, c, d, e, f, g⟩ := h
  refine ⟨(okL_iff s).2 ⟨by omega, by omega, by omega, by omega, g⟩, ⟨by omega, by omega⟩, ⟨by omega, by omega⟩, ⟨by omega, by omega⟩, fun x hx => ?_⟩
  obtain ⟨p, q, r, t, u⟩ := f x hx
  exact ⟨⟨by omega, by omega⟩, ⟨by omega, by omega⟩, ⟨by omega, by omega⟩⟩
end Go.Proofs.Ytfgkkflbpfocjaa

namespace Go.Proofs.Ytfgkkflbpfocjaa
open Go.RowKit
set_option linter.unusedVariables false
set_option linter.unusedSimpArgs false

theorem ho_far {w : World} {base : Nat} {e t : TypeId} {size n : Nat} {v : Value} {xs : List Value} {a : Addr} {cs : Array Value} (h : w.ownsRow base e size v n xs) (hk : Blk w a.block t cs) (hne : e ≠ t) (u : Value) : (w.setCell a u).ownsRow base e size v n xs := by
  refine h.kept (row := some a.block) ⟨rfl, rfl, rfl, by simp [World.setCell], fun k _ hk => Below.heap_setCell _ _ _ _ (fun e => hk (by rw [e]))⟩ ?_
  rcases h.2 with ⟨rfl, _⟩ | ⟨g, cap, cur, rfl, _, hh, _⟩
  · exact .inl rfl
  · right
    intro e'
    have : g = a.block := by simpa [Value.ownBlock] using e'
    subst this
    unfold Blk at hk
    rw [hk] at hh
    injection hh with hh
    injection hh with _ ht
    exact hne ht.symm
theorem blk_ne_own {w : World} {base : Nat} {e t : TypeId} {size n g : Nat} {v : Value} {xs : List Value} {cs : Array Value} (h : w.ownsRow base e size v n xs) (hk : Blk w g t cs) (hne : e ≠ t) : some g ≠ v.ownBlock := by
  rcases h.2 with ⟨rfl, _⟩ | ⟨g', cap, cur, rfl, _, hh, _⟩
  · simp [Value.ownBlock]
  · intro e'
    have : g' = g := by simpa [Value.ownBlock] using e'.symm
    subst this
    unfold Blk at hk
    rw [hk] at hh
    injection hh with hh
    injection hh with _ ht
    exact hne ht.symm
theorem flat_snoc (l : List Sl) (x : Sl) : flat (l ++ [x]) = flat l ++ [.int .u64 x.off, .int .u64 x.size, .int .i64 x.node, .int .u64 x.seq, .int .i64 x.io] := by simp [flat, Sl.cells]
theorem put4_own {W : World} {g base n : Nat} {a b c d a' b' c' d' v : Value} {xs : List Value} (h : Blk W g 25 #[a, b, c, d]) (ho : W.ownsRow base 81 5 v n xs) : ((((W.setCell ⟨g, 0, none⟩ a').setCell ⟨g, 1, none⟩ b').setCell ⟨g, 2, none⟩ c').setCell ⟨g, 3, none⟩ d').ownsRow base 81 5 v n xs :=
  ho_far (ho_far (ho_far (ho_far ho h (by decide) _) (h.set 0 a') (by decide) _) ((h.set 0 a').set 1 b') (by decide) _) (((h.set 0 a').set 1 b').set 2 c') (by decide) _
end Go.Proofs.Ytfgkkflbpfocjaa

namespace Go.Proofs.Ytfgkkflbpfocjaa
open Go.RowKit
set_option linter.unusedVariables false
set_option linter.unusedSimpArgs false

theorem tmod_rng {a n : Int} (hn : 1 ≤ n) : -n < a.tmod n ∧ a.tmod n < n :=
  ⟨Int.lt_tmod_of_pos a (by omega), Int.tmod_lt_of_pos _ (by omega)⟩
def RngPost (n : Int) (w : World) (e : Ending) (w' : World) : Prop := ∃ m, (0 ≤ m ∧ m < n) ∧ e = .returned (.int .i64 m) ∧ w = w'
set_option maxHeartbeats 400000 in
theorem Mod_rng (a n : Int) (w : World) (hn : 1 ≤ n) (hn2 : n ≤ 9223372036854775807) :
    Calls Try.prog 16 #[.int .i64 a, .int .i64 n] w (RngPost n w) := by
  obtain ⟨b2, b1⟩ := tmod_rng (a := a) hn
  by_cases h : a.tmod n < 0
  · go_enter Try.func16, Try.ntmps16
    go_wp2
    go_ret
    exact ⟨_, ⟨by omega, by omega⟩, rfl, rfl⟩
  · go_enter Try.func16, Try.ntmps16
    go_wp2
    go_ret
    exact ⟨_, ⟨by omega, by omega⟩, rfl, rfl⟩

section
variable {P : Program} {w : World}
/-- append onto a slice of the call's own, as one step of a region that draws -/
theorem step_append_own {ops : Array Oper} {o : Oper} {a : Act} {K : Act → World → Prop} {Q : Exit → Act → World → Prop} {E : Prop} (hgd : o.guard = none) (s x : Operand) (t : TypeId)
    (ho : o.op = .call { callee := .builtin .append, args := #[s, x], argTypes := #[t, t] })
    (base : Nat) (e : TypeId) (i : TypeInfo) (z : Value) (size bytes : Nat) (ht : P.underlying t = some (.slice e)) (hi : P.info? e = some i) (hz : i.zero = some z)
    (hsize : i.size = size) (hby : i.bytes = bytes) (hzs : z.cells.size = size) (hsz : 0 < size)
    (v : Value) (n : Nat) (xs : List Value) (hs : a.eval s = v) (hown : w.ownsRow base e size v n xs)
    (ad : Addr) (m c : Nat) (news : List Value) (hx : a.eval x = .slice (some ad) m c) (hl : news.length = m * size) (hnews : ∀ j u, news[j]? = some u → w.cell? (ad.add j) = some u) (h1 : ∀ u ∈ news, u.oneCell' = true)
    (h63 : n + m ≤ maxLen) (hbytes : (n + m) * bytes ≤ 140737488355328) (hbase : base ≤ w.heap.size)
    (h : ∀ v' w', w'.ownsRow base e size v' (n + m) (xs ++ news) → w.grownBy w' v.ownBlock → (v' = .slice none 0 0 ↔ v = .slice none 0 0 ∧ m = 0) → K (a.put o.dst v') w') :
    if Region.wanted o (yielded ops a.tmps) = true then Oper.wp P o a w K Q else E := by
  have hw : Region.wanted o (yielded ops a.tmps) = true := by simp [Region.wanted, hgd]
  rw [if_pos hw]
  exact wp_append_own w s x t ho base e i z size bytes ht hi hz hsize hby hzs hsz v n xs hs hown ad m c news hx hl hnews h1 h63 hbytes hbase h
end
theorem flat_app (a b : List Sl) : flat (a ++ b) = flat a ++ flat b := by simp [flat]
theorem flat_take_get {l : List Sl} {k j : Nat} {u : Value} (h : (flat (l.take k))[j]? = some u) : (flat l)[j]? = some u := by
  have e : flat l = flat (l.take k) ++ flat (l.drop k) := by rw [← flat_app, List.take_append_drop]
  have hj := (List.getElem?_eq_some_iff.1 h).1
  rw [e, List.getElem?_append_left hj, h]
theorem flat_drop_get {l : List Sl} {k j : Nat} {u : Value} (hk : k ≤ l.length) (h : (flat (l.drop k))[j]? = some u) : (flat l)[k * 5 + j]? = some u := by
  have e : flat l = flat (l.take k) ++ flat (l.drop k) := by rw [← flat_app, List.take_append_drop]
  have hl : (flat (l.take k)).length = k * 5 := by rw [flat_len, List.length_take, Nat.min_eq_left hk]
  rw [e, List.getElem?_append_right (by omega), hl, Nat.add_sub_cancel_left, h]

def ints (xs : List Int) : List Value := xs.map (.int .i64)
/-- a ledger of at most 12 rounds -/
def LedgerPost (w : World) (e : Ending) (w' : World) : Prop := ∃ s A c, LedI 12 s ∧ e = .returned (.agg #[.int .u64 s.g, .int .u64 s.n, .int .u64 s.r, .slice A s.sl.length c]) ∧ OwnL w w' (.slice A s.sl.length c) s.sl ∧ Below w.heap.size w w'
theorem ledI_up {i : Nat} {s : Led} (h : LedI i s) : ∀ k, LedI (i + k) s
  | 0 => h
  | k + 1 => ledI_next (ledI_up h k)

/-- the loop's state -/
def LedMid (w : World) (xs : List Int) (a : Value) (wr : World) : Prop := ∃ (i : Nat) (g n r : Int) (l : List Sl) (A : Option Addr) (c : Nat), LedI i ⟨g, n, r, l⟩ ∧ i ≤ 12 ∧ i ≤ xs.length ∧ a = .int .i64 i ∧
  Blk wr w.heap.size 25 #[.int .u64 0, .int .u64 0, .int .u64 0, .slice none 0 0] ∧ Blk wr (w.heap.size + 1) 25 #[.int .u64 g, .int .u64 n, .int .u64 r, .slice A l.length c] ∧
  OwnL w wr (.slice A l.length c) l ∧ Below w.heap.size w wr

set_option maxRecDepth 100000 in
set_option maxHeartbeats 8000000 in
theorem Ledger_any (xs : List Int) (v : Value) (w : World) (hS : SlAt w 1 v xs.length (ints xs)) :
    Calls Try.prog 68 #[v] w (LedgerPost w) := by
  obtain ⟨A0, c0, rfl, hc1, hc2, hR⟩ := hS
  obtain ⟨i0, hi, hz0', hz1, hz2⟩ := info_parts infoSlot
  go_enter Try.func68, Try.ntmps68
  obtain ⟨wo, hwo⟩ : ∃ wo, w = wo := ⟨_, rfl⟩
  subst hwo
  go_upto_region 2 with fail
  go_wp2_with fail
  go_loopw [4] (fun a wr => LedMid w xs a wr) (fun a _ => xs.length - (intOf a).toNat)
  case atStart =>
    refine ⟨0, 200, 0, 0, [], none, 0, ledI_zero, by omega, by omega, rfl, ?_, ?_, ?_, ?_⟩
    · exact (Blk.new _ _ _).alloc _
    · exact Blk.new1 _ _ _ _
    · exact World.ownsRow_nil _ _ _ _
    · exact (by repeat (first | with_reducible exact Below.refl _ _ | with_reducible refine Below.drew ?_ | with_reducible refine below_drewN ?_ _ | with_reducible refine bal ?_ _ | with_reducible refine bset ?_ (by first | (simp; done) | (simp; omega)) _ | with_reducible refine bnext ?_ (by assumption) | with_reducible assumption))
  case round =>
    obtain ⟨i, g, n, r, l, A, c, hI, hi12, hix, rfl, k0, k1, ho, hB⟩ := hrel
    have HI := Lib.hid hI
    have hn : (200 ≤ g ∧ g ≤ 200 + 40 * i) ∧ 0 ≤ n ∧ 0 ≤ r ∧ n + r ≤ g := ⟨hI.1, hI.2.1, hI.2.2.1, hI.2.2.2.1⟩
    have hl12 : l.length ≤ 12 := Nat.le_trans (ledI_len hI) hi12
    obtain ⟨⟨hg0, hg1⟩, hn0, hr0, hs0⟩ := hn
    have K0 := Lib.hid k0
    have K1 := Lib.hid k1
    have HO := Lib.hid ho
    have hlt := k1.lt
    obtain ⟨d0, d1, d2, d3⟩ := k1.c4
    obtain ⟨e0, e1, e2, e3⟩ := k0.c4
    obtain ⟨f0, f1, f2, f3⟩ := k0.f4
    obtain ⟨m0, m1, m2, m3⟩ := k1.f4
    clear hI k0 ho
    by_cases h1 : i < xs.length
    · have hi1 : (i : Int) < xs.length := by omega
      by_cases h2 : i < 12
      · have hi2 : (i : Int) < 12 := by omega
        obtain ⟨b, o, e, hbl, hx⟩ := hR.2 (by omega)
        cases e
        obtain ⟨x, hx0⟩ : ∃ x, xs[i]? = some x := ⟨_, List.getElem?_eq_getElem h1⟩
        have hcx : wr.cell? ⟨b, o + i, none⟩ = some (.int .i64 x) := by
          rw [(bcell hB).1 _ _ hbl]
          exact hx i _ (by simp [ints, hx0])
        clear hx hx0
        have k1' := k1
        go_wp2_with fail
        refine (Mod_rng _ _ _ (by decide) (by decide)).mono ?_
        rintro e wq ⟨m, ⟨hm0, hm1⟩, rfl, rfl⟩
        obtain ⟨q, hq⟩ : ∃ q, m.tdiv 8 = q := ⟨_, rfl⟩
        have hq0 : 0 ≤ q ∧ q ≤ 131072 := by rw [← hq, Int.tdiv_eq_ediv_of_nonneg hm0]; omega
        obtain ⟨z, hz⟩ : ∃ z, q.tmod 40 = z := ⟨_, rfl⟩
        have hz0 : 0 ≤ z ∧ z < 40 := by rw [← hz, Int.tmod_eq_emod_of_nonneg hq0.1]; omega
        obtain ⟨d, hd⟩ : ∃ d, m.tmod 8 = d := ⟨_, rfl⟩
        have hd0 : 0 ≤ d ∧ d < 8 := by rw [← hd, Int.tmod_eq_emod_of_nonneg hm0]; omega
        obtain ⟨k, hk⟩ : ∃ k, q.tmod 12 = k := ⟨_, rfl⟩
        have hk0 : 0 ≤ k ∧ k < 12 := by rw [← hk, Int.tmod_eq_emod_of_nonneg hq0.1]; omega
        go_upto_region 12 with fail
        have hix1 : (i : Int) + 1 ≤ 12 := by omega
        by_cases hcd : d ≤ 3
        · have key : d = 0 ∨ d = 1 ∨ d = 2 ∨ d = 3 := by omega
          have HOA : Hid ((wr.alloc (.cells #[.int .u64 n, .int .u64 (1 + z), .int .i64 1, .int .u64 (i + 1), .int .i64 0] 81)).ownsRow w.heap.size 81 5 (.slice A l.length c) l.length (flat l)) := Lib.hid (World.ownsRow.alloc HO.out _)
          have hz1' : 1 + z ≤ 40 := by omega
          by_cases hzu : 1 + z ≤ g - n - r
          · have hsize := hB.size
            rcases key with rfl | rfl | rfl | rfl
            all_goals
              go_wp2_with (first
                | (at_builtin; refine wpList_append_own _ rfl _ _ 23 rfl w.heap.size 81 i0 zslot 5 40 Try.underlying23 hi hz0' hz1 hz2 rfl (by decide) _ _ _ rfl HOA.out ⟨wr.heap.size, 0, none⟩ 1 1 [.int .u64 n, .int .u64 (1 + z), .int .i64 1, .int .u64 (i + 1), .int .i64 0] rfl rfl (fun j x hj => by rw [← hj]; exact newadd _ _ _ _) (by intro x hx; simp at hx; rcases hx with rfl | rfl | rfl | rfl | rfl <;> rfl) (by unfold maxLen; omega) (by omega) (by simp; omega) ?_; intro v' w5 hown' hgrow _; obtain ⟨g', cap', rfl⟩ := ownsRow_succ hown'; have k05 := (K0.out.alloc (.cells #[.int .u64 n, .int .u64 (1 + z), .int .i64 1, .int .u64 (i + 1), .int .i64 0] 81)).grown hgrow (blk_ne_own HOA.out (K0.out.alloc _) (by decide)); have k15 := (K1.out.alloc (.cells #[.int .u64 n, .int .u64 (1 + z), .int .i64 1, .int .u64 (i + 1), .int .i64 0] 81)).grown hgrow (blk_ne_own HOA.out (K1.out.alloc _) (by decide)); obtain ⟨l0, l1, l2, l3⟩ := k15.c4; obtain ⟨p0, p1, p2, p3⟩ := k15.f4; have hB5 : Below w.heap.size w w5 := (bal hB _).grown hgrow (by simp; omega) (fun k e => by have := (HOA.out.lt k e).1; omega); have HO5 := Lib.hid hown'; have K05 := Lib.hid k05; have K15 := Lib.hid k15; clear k05 k15 hown' hgrow))
              go_roundw
              case rel =>
                refine ⟨i + 1, g, n + (1 + z), r, l ++ [⟨n, 1 + z, 1, i + 1, 0⟩], some ⟨g', 0, none⟩, cap', ledI_add HI.out h2 (by omega) (by omega) hzu, by omega, by omega, by go_num, ?_, ?_, ?_, ?_⟩
                · exact (K05.out.far (by simp) _).far (by simp) _
                · have q := (K15.out.set 3 (.slice (some ⟨g', 0, none⟩) (l.length + 1) cap')).set 1 (.int .u64 (n + (1 + z)))
                  simpa using q
                · unfold OwnL
                  have p0 := ho_far (a := ⟨w.heap.size + 1, 3, none⟩) HO5.out K15.out (by decide) (.slice (some ⟨g', 0, none⟩) (l.length + 1) cap')
                  have p1 := ho_far (a := ⟨w.heap.size + 1, 1, none⟩) p0 (K15.out.set 3 _) (by decide) (.int .u64 (n + (1 + z)))
                  have el : (l ++ [(⟨n, 1 + z, 1, i + 1, 0⟩ : Sl)]).length = l.length + 1 := by simp
                  have ef := flat_snoc l ⟨n, 1 + z, 1, i + 1, 0⟩
                  dsimp only at ef ⊢
                  rw [el, ef]
                  exact p1
                · exact (by repeat (first | with_reducible exact Below.refl _ _ | with_reducible refine Below.drew ?_ | with_reducible refine below_drewN ?_ _ | with_reducible refine bal ?_ _ | with_reducible refine bset ?_ (by first | (simp; done) | (simp; omega)) _ | with_reducible refine bnext ?_ (by assumption) | with_reducible assumption))
              case measure => simp [intOf]; omega
          · rcases key with rfl | rfl | rfl | rfl
            all_goals
              go_wp2_with fail
              go_roundw
              case rel => exact ⟨i + 1, g, n, r, l, A, c, ledI_next HI.out, by omega, by omega, by go_num, K0.out, K1.out, HO.out, hB⟩
              case measure => simp [intOf]; omega
        · by_cases hd4 : d = 4
          · subst hd4
            go_wp2_with fail
            go_roundw
            case rel =>
              refine ⟨i + 1, g + (1 + z), n, r, l, A, c, ledI_more HI.out (by omega) (by omega), by omega, by omega, by go_num, ?_, ?_, ?_, ?_⟩
              · exact K0.out.far (by simp) _
              · simpa using K1.out.set 0 (.int .u64 (g + (1 + z)))
              · exact ho_far HO.out K1.out (by decide) _
              · exact (by repeat (first | with_reducible exact Below.refl _ _ | with_reducible refine Below.drew ?_ | with_reducible refine below_drewN ?_ _ | with_reducible refine bal ?_ _ | with_reducible refine bset ?_ (by first | (simp; done) | (simp; omega)) _ | with_reducible refine bnext ?_ (by assumption) | with_reducible assumption))
            case measure => simp [intOf]; omega
          · by_cases hd5 : d = 5
            · subst hd5
              obtain ⟨y, hy⟩ : ∃ y, (if 1 + z < g - n - r then 1 + z else g - n - r) = y := ⟨_, rfl⟩
              have hy0 : 0 ≤ y ∧ y ≤ g - n - r := by rw [← hy]; split <;> omega
              go_wp2_with fail
              go_roundw
              case rel =>
                refine ⟨i + 1, g, n, r + y, l, A, c, ledI_back HI.out hy0.1 hy0.2, by omega, by omega, by go_num, ?_, ?_, ?_, ?_⟩
                · exact K0.out.far (by simp) _
                · simpa using K1.out.set 2 (.int .u64 (r + y))
                · exact ho_far HO.out K1.out (by decide) _
                · exact (by repeat (first | with_reducible exact Below.refl _ _ | with_reducible refine Below.drew ?_ | with_reducible refine below_drewN ?_ _ | with_reducible refine bal ?_ _ | with_reducible refine bset ?_ (by first | (simp; done) | (simp; omega)) _ | with_reducible refine bnext ?_ (by assumption) | with_reducible assumption))
              case measure => simp [intOf]; omega
            · have hd6 : ¬ d ≤ 3 := hcd
              by_cases hkl : k < l.length
              · obtain ⟨kk, rfl⟩ : ∃ kk : Nat, k = kk := ⟨k.toNat, by omega⟩
                have hkn : kk < l.length := by omega
                obtain ⟨gA, cA, e, hgA0, hgA1⟩ := World.ownsRow.form HO.out (by omega)
                cases e
                obtain ⟨_, _, e, hlc, hcm, hRd⟩ := SlAt.own HO.out
                cases e
                have hRA := reads_add hRd
                obtain ⟨_, _, e, _, hRB⟩ := hRd.2 (by omega)
                cases e
                have hk2 : ((kk : Int) + 1).toNat = kk + 1 := by omega
                have hwk : IntKind.i64.wrap ((kk : Int) + 1) = (kk : Int) + 1 := IntWalk.i64_in _ (by omega)
                obtain ⟨ad, had⟩ : ∃ ad, (if c = kk + 1 then some (⟨gA, 0, none⟩ : Addr) else some ⟨gA, (kk + 1) * 5, none⟩) = some ad := by split <;> exact ⟨_, rfl⟩
                have hk3 : (0 : Int) ≤ (kk : Int) + 1 := by omega
                have hk4 : (kk : Int) + 1 ≤ l.length := by omega
                have hk5 : (kk : Int) ≤ c := by omega
                have hc0 : ¬ c = 0 := by omega
                have HV := Lib.hid (World.ownsRow_made (base := wr.heap.size) (e := 81) (size := 5) wr #[] 0 (by simp) (by unfold maxLen; omega) rfl)
                have LT : (flat (l.take kk)).length = kk * 5 := by rw [flat_len, List.length_take, Nat.min_eq_left (by omega)]
                have LD : (flat (l.drop (kk + 1))).length = (l.length - (kk + 1)) * 5 := by rw [flat_len, List.length_drop]
                have N1 : Hid (∀ j u, (flat (l.take kk))[j]? = some u → (wr.alloc (.cells #[] 81)).cell? ((⟨gA, 0, none⟩ : Addr).add j) = some u) := by
                  intro j u h
                  rw [World.cell?_alloc_lt _ _ _ (by unfold Addr.add; split <;> exact hgA1)]
                  exact hRA j u (flat_take_get h)
                have N2 : Hid (∀ j u, (flat (l.drop (kk + 1)))[j]? = some u → wr.cell? ⟨gA, (kk + 1) * 5 + j, none⟩ = some u) := by
                  intro j u h
                  have := hRB _ u (flat_drop_get (by omega) h)
                  rwa [Nat.zero_add] at this
                have LT := Lib.hid LT
                have LD := Lib.hid LD
                clear hRA hRB hRd
                obtain ⟨L, hL⟩ : ∃ L, l.take kk ++ l.drop (kk + 1) = L := ⟨_, rfl⟩
                have EQ : Hid (0 + kk + (l.length - (kk + 1)) = L.length) := by rw [← hL, List.length_append, List.length_take, List.length_drop]; show _ = _; omega
                have EF : Hid ([] ++ flat (l.take kk) ++ flat (l.drop (kk + 1)) = flat L) := by rw [← hL, flat_app, List.nil_append]; rfl
                have HL := Lib.hid hL
                have HAD : Hid (∀ j u, (flat (l.drop (kk + 1)))[j]? = some u → ad.add j = ⟨gA, (kk + 1) * 5 + j, none⟩) := by
                  intro j u h
                  by_cases hcap : c = kk + 1
                  · have h0 := (List.getElem?_eq_some_iff.1 h).1
                    rw [LD.out] at h0
                    omega
                  · rw [if_neg hcap] at had
                    have := Option.some.inj had
                    rw [← this]
                    unfold Addr.add
                    split <;> simp_all
                clear hL
                go_upto_region 11 with fail
                go_region_law (first
                  | (refine step_append_own (by rfl) _ _ 23 (by rfl) wr.heap.size 81 i0 zslot 5 40 Try.underlying23 hi hz0' hz1 hz2 rfl (by decide) (.slice (some ⟨wr.heap.size, 0, none⟩) 0 0) 0 [] (by rfl) HV.out.drew ⟨gA, 0, none⟩ kk c (flat (l.take kk)) (by rfl) LT.out N1.out (flat_one _) (by unfold maxLen; omega) (by omega) (by simp) ?_; intro v5 w5 hown5 hgrow5 _; have k05 := (K0.out.alloc (.cells #[] 81)).drew.grown hgrow5 (blk_ne_own HV.out (K0.out.alloc _) (by decide)); have k15 := (K1.out.alloc (.cells #[] 81)).drew.grown hgrow5 (blk_ne_own HV.out (K1.out.alloc _) (by decide)); obtain ⟨l0, l1, l2, l3⟩ := k15.c4; have hB5 : Below w.heap.size w w5 := (bdr (bal hB _)).grown hgrow5 (by simp; omega) (fun k e => by have := (HV.out.lt k e).1; omega); have N25 : ∀ j u, (flat (l.drop (kk + 1)))[j]? = some u → w5.cell? (ad.add j) = some u := (fun j u h => (congrArg _ (HAD.out j u h)).trans ((hgrow5.cell_far ⟨gA, (kk + 1) * 5 + j, none⟩ (by simp; omega) (by simp [Value.ownBlock]; omega)).trans ((World.cell?_alloc_lt _ _ _ hgA1).trans (N2.out j u h)))); have N25 := Lib.hid N25; have HO5 := Lib.hid hown5; have K05 := Lib.hid k05; have K15 := Lib.hid k15; have hz5 : wr.heap.size ≤ w5.heap.size := (by have := hgrow5.size; simp at this; omega); clear hown5 hgrow5 k05 k15)
                  | (refine step_append_own (by rfl) _ _ 23 (by rfl) wr.heap.size 81 i0 zslot 5 40 Try.underlying23 hi hz0' hz1 hz2 rfl (by decide) v5 (0 + kk) ([] ++ flat (l.take kk)) (by rfl) HO5.out ad (l.length - (kk + 1)) (c - (kk + 1)) (flat (l.drop (kk + 1))) (by rfl) LD.out N25.out (flat_one _) (by unfold maxLen; omega) (by omega) (by omega) ?_; intro v6 w6 hown6 hgrow6 _; rw [EQ.out, EF.out] at hown6; obtain ⟨A6, c6, hv6, _⟩ := SlAt.own hown6; subst hv6; have k06 := K05.out.grown hgrow6 (blk_ne_own HO5.out K05.out (by decide)); have k16 := K15.out.grown hgrow6 (blk_ne_own HO5.out K15.out (by decide)); obtain ⟨p0, p1, p2, p3⟩ := k16.c4; obtain ⟨s0, s1, s2, s3⟩ := k16.f4; have hB6 : Below w.heap.size w w6 := hB5.grown hgrow6 (by omega) (fun k e => by have := (HO5.out.lt k e).1; omega); have HO6 := Lib.hid hown6; have K06 := Lib.hid k06; have K16 := Lib.hid k16; clear hown6 hgrow6 k06 k16))
                all_goals
                  go_wp2_with fail
                  go_roundw
                  case rel =>
                    refine ⟨i + 1, g, n, r, L, A6, c6, by have q := ledI_del HI.out kk; rwa [HL.out] at q, by omega, by omega, by go_num, ?_, ?_, ?_, ?_⟩
                    · exact K06.out.far (by simp) _
                    · simpa using K16.out.set 3 (.slice A6 L.length c6)
                    · exact own_mono (ho_far (a := ⟨w.heap.size + 1, 3, none⟩) HO6.out K16.out (by decide) _) hB.size
                    · exact (by repeat (first | with_reducible exact Below.refl _ _ | with_reducible refine Below.drew ?_ | with_reducible refine below_drewN ?_ _ | with_reducible refine bal ?_ _ | with_reducible refine bset ?_ (by first | (simp; done) | (simp; omega)) _ | with_reducible refine bnext ?_ (by assumption) | with_reducible assumption))
                  case measure => simp [intOf]; omega
              · go_wp2_with fail
                go_roundw
                case rel => exact ⟨i + 1, g, n, r, l, A, c, ledI_next HI.out, by omega, by omega, by go_num, K0.out, K1.out, HO.out, hB⟩
                case measure => simp [intOf]; omega
      · have hi2 : ¬ (i : Int) < 12 := by omega
        go_wp2_with fail
        refine bodyPost_ret (v := .agg #[.int .u64 g, .int .u64 n, .int .u64 r, .slice A l.length c]) (by simp [results, Try.results68, go_sem, d0, d1, d2, d3, e0, e1, e2, e3]) rfl ⟨⟨g, n, r, l⟩, A, c, by have q := ledI_up HI.out (12 - i); rwa [show i + (12 - i) = 12 by omega] at q, rfl, put4_own K0.out HO.out, (by repeat (first | with_reducible exact Below.refl _ _ | with_reducible refine Below.drew ?_ | with_reducible refine below_drewN ?_ _ | with_reducible refine bal ?_ _ | with_reducible refine bset ?_ (by first | (simp; done) | (simp; omega)) _ | with_reducible refine bnext ?_ (by assumption) | with_reducible assumption))⟩
    · have hi1 : ¬ (i : Int) < xs.length := by omega
      go_wp2_with fail
      refine bodyPost_ret (v := .agg #[.int .u64 g, .int .u64 n, .int .u64 r, .slice A l.length c]) (by simp [results, Try.results68, go_sem, d0, d1, d2, d3, e0, e1, e2, e3]) rfl ⟨⟨g, n, r, l⟩, A, c, by have q := ledI_up HI.out (12 - i); rwa [show i + (12 - i) = 12 by omega] at q, rfl, put4_own K0.out HO.out, (by repeat (first | with_reducible exact Below.refl _ _ | with_reducible refine Below.drew ?_ | with_reducible refine below_drewN ?_ _ | with_reducible refine bal ?_ _ | with_reducible refine bset ?_ (by first | (simp; done) | (simp; omega)) _ | with_reducible refine bnext ?_ (by assumption) | with_reducible assumption))⟩
end Go.Proofs.Ytfgkkflbpfocjaa

namespace Go.Proofs.Ytfgkkflbpfocjaa
set_option linter.unusedVariables false
set_option linter.unusedSimpArgs false

/-- a receiver's ledger behind i rounds; p: where the next range may begin -/
structure RecI (i : Nat) (z : Rec) (p : Int) : Prop where
  g : 300 ≤ z.g ∧ z.g ≤ 300 + 20 * i
  r : z.r = 0
  fl : 0 ≤ z.fl ∧ z.fl ≤ p
  pb : p ≤ 29 * i
  nt : z.tk.length ≤ i
  nk : z.kp.length ≤ i
  t : ∀ k, k < z.tk.length → (rgAt z.tk k).f < (rgAt z.tk k).t ∧ z.fl ≤ (rgAt z.tk k).f ∧ (rgAt z.tk k).t ≤ p ∧ (0 < k → (rgAt z.tk (k - 1)).t < (rgAt z.tk k).f)
  k : ∀ k, k < z.kp.length → (∃ x ∈ z.tk, x.f = kpAt z.kp k ∧ x.f < x.t ∧ x.t ≤ p) ∧ 0 ≤ kpAt z.kp k ∧ (0 < k → kpAt z.kp (k - 1) < kpAt z.kp k)
theorem recI_zero : RecI 0 ⟨300, 0, 0, [], []⟩ 0 :=
  ⟨by decide, rfl, by decide, by decide, by decide, by decide, fun k hk => absurd hk (Nat.not_lt_zero _), fun k hk => absurd hk (Nat.not_lt_zero _)⟩
theorem recI_next {i : Nat} {z : Rec} {p : Int} (h : RecI i z p) : RecI (i + 1) z p := by
  have a := h.g; have b := h.pb; have c := h.nt; have d := h.nk
  exact ⟨by omega, h.r, h.fl, by omega, by omega, by omega, h.t, h.k⟩
theorem recI_up {i : Nat} {z : Rec} {p : Int} (h : RecI i z p) : ∀ k, RecI (i + k) z p
  | 0 => h
  | k + 1 => recI_next (recI_up h k)
theorem recI_more {i : Nat} {g r fl : Int} {tk : List Rg} {kp : List Int} {p : Int} (h : RecI i ⟨g, r, fl, tk, kp⟩ p) {s : Int} (h1 : 1 ≤ s) (h2 : s ≤ 20) : RecI (i + 1) ⟨g + s, r, fl, tk, kp⟩ p := by
  have a := h.g
  have n := recI_next h
  dsimp only at a
  exact ⟨by dsimp only; omega, n.r, n.fl, n.pb, n.nt, n.nk, n.t, n.k⟩
theorem recI_floor {i : Nat} {g r fl : Int} {kp : List Int} {p : Int} (h : RecI i ⟨g, r, fl, [], kp⟩ p) {s : Int} (h1 : 0 ≤ s) (h2 : s ≤ 9) : RecI (i + 1) ⟨g, r, fl + s, [], kp⟩ (fl + s) := by
  have a := h.g
  have b := h.fl
  have c := h.pb
  have n := recI_next h
  dsimp only at a b
  refine ⟨n.g, n.r, by dsimp only; omega, by omega, n.nt, n.nk, fun k hk => absurd hk (Nat.not_lt_zero _), fun k hk => ?_⟩
  obtain ⟨⟨x, hx, _⟩, _⟩ := h.k k hk
  cases hx
theorem rgAt_app {l : List Rg} {x : Rg} {k : Nat} (h : k < l.length) : rgAt (l ++ [x]) k = rgAt l k := by
  unfold rgAt; rw [List.getD_eq_getElem?_getD, List.getD_eq_getElem?_getD, List.getElem?_append_left h]
theorem rgAt_end {l : List Rg} {x : Rg} : rgAt (l ++ [x]) l.length = x := by
  unfold rgAt; rw [List.getD_eq_getElem?_getD, List.getElem?_append_right (Nat.le_refl _), Nat.sub_self]; rfl
theorem kpAt_app {l : List Int} {x : Int} {k : Nat} (h : k < l.length) : kpAt (l ++ [x]) k = kpAt l k := by
  unfold kpAt; rw [List.getD_eq_getElem?_getD, List.getD_eq_getElem?_getD, List.getElem?_append_left h]
theorem kpAt_end {l : List Int} {x : Int} : kpAt (l ++ [x]) l.length = x := by
  unfold kpAt; rw [List.getD_eq_getElem?_getD, List.getElem?_append_right (Nat.le_refl _), Nat.sub_self]; rfl
theorem recI_take {i : Nat} {g r fl : Int} {tk : List Rg} {kp : List Int} {p : Int} (h : RecI i ⟨g, r, fl, tk, kp⟩ p) {a s : Int} (h0 : 0 ≤ a ∧ a ≤ 9) (h1 : tk.length ≠ 0 → 1 ≤ a) (h2 : 1 ≤ s ∧ s ≤ 20) : RecI (i + 1) ⟨g, r, fl, tk ++ [⟨p + a, p + a + s⟩], kp⟩ (p + a + s) := by
  have b := h.fl
  have c := h.pb
  have n := recI_next h
  have e := h.nt
  dsimp only at b e
  refine ⟨n.g, n.r, by dsimp only; omega, by omega, by simp; omega, n.nk, fun k hk => ?_, fun k hk => ?_⟩
  · dsimp only at hk ⊢
    rw [List.length_append, List.length_singleton] at hk
    by_cases hk2 : k < tk.length
    · obtain ⟨q1, q2, q3, q4⟩ := h.t k hk2
      dsimp only at q1 q2 q3 q4
      rw [rgAt_app hk2]
      refine ⟨q1, q2, by omega, fun h0 => ?_⟩
      rw [rgAt_app (by omega)]
      exact q4 h0
    · obtain rfl : k = tk.length := by omega
      rw [rgAt_end]
      refine ⟨by dsimp only; omega, by dsimp only; omega, by dsimp only; omega, fun h0 => ?_⟩
      rw [rgAt_app (by omega)]
      have q := (h.t (tk.length - 1) (by dsimp only; omega)).2.2.1
      have := h1 (by omega)
      dsimp only at q ⊢
      omega
  · obtain ⟨⟨x, hx, q1, q2, q3⟩, q4, q5⟩ := h.k k hk
    exact ⟨⟨x, List.mem_append_left _ hx, q1, q2, by omega⟩, q4, q5⟩
theorem recI_keep {i : Nat} {g r fl : Int} {tk : List Rg} {kp : List Int} {p : Int} (h : RecI i ⟨g, r, fl, tk, kp⟩ p) {a s : Int} (h0 : 0 ≤ a ∧ a ≤ 9) (h1 : tk.length ≠ 0 → 1 ≤ a) (h2 : 1 ≤ s ∧ s ≤ 20) : RecI (i + 1) ⟨g, r, fl, tk ++ [⟨p + a, p + a + s⟩], kp ++ [p + a]⟩ (p + a + s) := by
  have n := recI_take h h0 h1 h2
  have b := h.fl
  have e := h.nk
  dsimp only at b e
  refine ⟨n.g, n.r, n.fl, n.pb, n.nt, by simp; omega, n.t, fun k hk => ?_⟩
  dsimp only at hk ⊢
  rw [List.length_append, List.length_singleton] at hk
  by_cases hk2 : k < kp.length
  · obtain ⟨q1, q2, q3⟩ := n.k k hk2
    dsimp only at q1 q2 q3
    rw [kpAt_app hk2]
    refine ⟨q1, q2, fun h0 => ?_⟩
    rw [kpAt_app (by omega)]
    exact q3 h0
  · obtain rfl : k = kp.length := by omega
    rw [kpAt_end]
    refine ⟨⟨_, List.mem_append_right _ (List.mem_singleton.2 rfl), rfl, by dsimp only; omega, by dsimp only; omega⟩, by omega, fun h0 => ?_⟩
    rw [kpAt_app (by omega)]
    obtain ⟨⟨x, _, q1, q2, q3⟩, _⟩ := h.k (kp.length - 1) (by dsimp only; omega)
    dsimp only at q1
    omega
theorem mem_at {l : List Rg} {x : Rg} (h : x ∈ l) : ∃ k, k < l.length ∧ rgAt l k = x := by
  obtain ⟨k, hk, e⟩ := List.mem_iff_getElem.1 h
  exact ⟨k, hk, by rw [← e]; exact rgAt_of (List.getElem?_eq_getElem hk)⟩
theorem mem_kp {l : List Int} {x : Int} (h : x ∈ l) : ∃ k, k < l.length ∧ kpAt l k = x := by
  obtain ⟨k, hk, e⟩ := List.mem_iff_getElem.1 h
  exact ⟨k, hk, by rw [← e]; exact kpAt_of (List.getElem?_eq_getElem hk)⟩
/-- at the end -/
theorem recI_ok {i : Nat} {z : Rec} {p : Int} (h : RecI i z p) (hi : i ≤ 12) {g q : Int} (hq : 0 ≤ q ∧ q ≤ 39) (hg : z.g ≤ g ∧ g ≤ z.g + 400) (hqg : q + 48 ≤ g - 300 ∨ (q = 0 ∧ i = 0)) : okR ⟨g, q, z.fl, z.tk, z.kp⟩ ∧ WfR ⟨g, q, z.fl, z.tk, z.kp⟩ := by
  have a := h.g; have b := h.fl; have c := h.pb; have d := h.nt; have e := h.nk
  have T : ∀ k, k < z.tk.length → tErr ⟨g, q, z.fl, z.tk, z.kp⟩ k = 0 := by
    intro k hk
    obtain ⟨q1, q2, q3, q4⟩ := h.t k hk
    unfold tErr
    dsimp only
    rw [if_neg (by intro c; rcases c with c | c | ⟨c, c'⟩; omega; omega; have := q4 c; omega), if_neg (by omega)]
  have K : ∀ k, k < z.kp.length → kErr ⟨g, q, z.fl, z.tk, z.kp⟩ k = 0 := by
    intro k hk
    obtain ⟨⟨x, hx, q1, q2, q3⟩, q4, q5⟩ := h.k k hk
    have hin : inR z.tk (kpAt z.kp k) = true := List.any_eq_true.2 ⟨x, hx, by unfold Rg.inB; rw [← q1]; simp; omega⟩
    unfold kErr
    dsimp only
    rw [if_neg (by rintro ⟨c, c'⟩; have := q5 c; omega), hin, if_neg (by simp)]
  constructor
  · unfold okR chkR
    dsimp only
    rw [if_neg (by omega), if_neg (by omega), if_neg (by omega), fstE_all T, if_neg (by simp), fstE_all K]
  · refine ⟨by dsimp only; omega, by dsimp only; omega, by dsimp only; omega, fun x hx => ?_, fun x hx => ?_⟩
    · obtain ⟨k, hk, rfl⟩ := mem_at hx
      dsimp only at hk ⊢
      obtain ⟨q1, q2, q3, q4⟩ := h.t k hk
      omega
    · obtain ⟨k, hk, rfl⟩ := mem_kp hx
      dsimp only at hk ⊢
      obtain ⟨⟨x, _, q1, q2, q3⟩, q4, q5⟩ := h.k k hk
      omega
end Go.Proofs.Ytfgkkflbpfocjaa

namespace Go.Proofs.Ytfgkkflbpfocjaa
open Go.RowKit
set_option linter.unusedVariables false
set_option linter.unusedSimpArgs false

theorem own_two {w : World} {b1 b2 : Nat} {e1 e2 : TypeId} {s1 s2 n1 n2 : Nat} {v1 v2 : Value} {x1 x2 : List Value} (h1 : w.ownsRow b1 e1 s1 v1 n1 x1) (h2 : w.ownsRow b2 e2 s2 v2 n2 x2) (hne : e1 ≠ e2) : v1.ownBlock = none ∨ v1.ownBlock ≠ v2.ownBlock := by
  rcases h1.2 with ⟨rfl, _⟩ | ⟨g, cap, cur, rfl, _, hh, _⟩
  · exact .inl rfl
  · right
    rcases h2.2 with ⟨rfl, _⟩ | ⟨g', cap', cur', rfl, _, hh', _⟩
    · simp [Value.ownBlock]
    · intro e
      have : g = g' := by simpa [Value.ownBlock] using e
      subst this
      rw [hh'] at hh
      injection hh with hh
      injection hh with _ ht
      exact hne ht.symm
theorem rg_lit1 {w : World} {g : Nat} {t : TypeId} {a b : Int} (h : Blk w g t #[.int .u64 a, .int .u64 b]) : SlAt w 2 (.slice (some ⟨g, 0, none⟩) 1 1) [(⟨a, b⟩ : Rg)].length (fl Rg.cells [⟨a, b⟩]) := by
  refine ⟨_, _, rfl, Nat.le_refl _, by unfold maxLen; simp, by rw [fl_len rg2], fun _ => ⟨g, 0, rfl, h.lt, fun j u hj => ?_⟩⟩
  rw [Nat.zero_add, h.cell]
  have e : fl Rg.cells [⟨a, b⟩] = [.int .u64 a, .int .u64 b] := rfl
  rw [e] at hj
  rw [List.getElem?_toArray, hj]
theorem kp_lit1 {w : World} {g : Nat} {t : TypeId} {a : Int} (h : Blk w g t #[.int .u64 a]) : SlAt w 1 (.slice (some ⟨g, 0, none⟩) 1 1) [a].length (fl kc [a]) := by
  refine ⟨_, _, rfl, Nat.le_refl _, by unfold maxLen; simp, by rw [fl_len kc1], fun _ => ⟨g, 0, rfl, h.lt, fun j u hj => ?_⟩⟩
  rw [Nat.zero_add, h.cell]
  have e : fl kc [a] = [.int .u64 a] := rfl
  rw [e] at hj
  rw [List.getElem?_toArray, hj]

/-- the blocks of the loop -/
def RcK (w wx : World) (g r fl' : Int) (T : List Rg) (K : List Int) (A : Option Addr) (c : Nat) (B : Option Addr) (d : Nat) : Prop :=
  Blk wx w.heap.size 29 #[.int .u64 0, .int .u64 0, .int .u64 0, .slice none 0 0, .slice none 0 0] ∧ Blk wx (w.heap.size + 1) 29 #[.int .u64 g, .int .u64 r, .int .u64 fl', .slice A T.length c, .slice B K.length d] ∧
  wx.ownsRow w.heap.size 74 2 (.slice A T.length c) T.length (fl Rg.cells T) ∧ wx.ownsRow w.heap.size 22 1 (.slice B K.length d) K.length (fl kc K) ∧ Below w.heap.size w wx
section
variable {w wx w5 : World} {g r fl' : Int} {T : List Rg} {K : List Int} {A : Option Addr} {c : Nat} {B : Option Addr} {d : Nat}
theorem RcK.gr (h : RcK w wx g r fl' T K A c B d) (u : Int) : RcK w (wx.setCell ⟨w.heap.size + 1, 0, none⟩ (.int .u64 u)) u r fl' T K A c B d :=
  ⟨h.1.far (by simp) _, by simpa using h.2.1.set 0 (.int .u64 u), ho_far (a := ⟨w.heap.size + 1, 0, none⟩) h.2.2.1 h.2.1 (by decide) _, ho_far (a := ⟨w.heap.size + 1, 0, none⟩) h.2.2.2.1 h.2.1 (by decide) _, bset h.2.2.2.2 (p := ⟨w.heap.size + 1, 0, none⟩) (Nat.le_succ _) _⟩
theorem RcK.re (h : RcK w wx g r fl' T K A c B d) (u : Int) : RcK w (wx.setCell ⟨w.heap.size + 1, 1, none⟩ (.int .u64 u)) g u fl' T K A c B d :=
  ⟨h.1.far (by simp) _, by simpa using h.2.1.set 1 (.int .u64 u), ho_far (a := ⟨w.heap.size + 1, 1, none⟩) h.2.2.1 h.2.1 (by decide) _, ho_far (a := ⟨w.heap.size + 1, 1, none⟩) h.2.2.2.1 h.2.1 (by decide) _, bset h.2.2.2.2 (p := ⟨w.heap.size + 1, 1, none⟩) (Nat.le_succ _) _⟩
theorem RcK.fl (h : RcK w wx g r fl' T K A c B d) (u : Int) : RcK w (wx.setCell ⟨w.heap.size + 1, 2, none⟩ (.int .u64 u)) g r u T K A c B d :=
  ⟨h.1.far (by simp) _, by simpa using h.2.1.set 2 (.int .u64 u), ho_far (a := ⟨w.heap.size + 1, 2, none⟩) h.2.2.1 h.2.1 (by decide) _, ho_far (a := ⟨w.heap.size + 1, 2, none⟩) h.2.2.2.1 h.2.1 (by decide) _, bset h.2.2.2.2 (p := ⟨w.heap.size + 1, 2, none⟩) (Nat.le_succ _) _⟩
theorem RcK.tk (h : RcK w wx g r fl' T K A c B d) {o : Obj} {x : Rg} {A' : Option Addr} {c' : Nat} (hg : (wx.alloc o).grownBy w5 (Value.slice A T.length c).ownBlock)
    (hown : w5.ownsRow w.heap.size 74 2 (.slice A' (T.length + 1) c') (T ++ [x]).length (Go.Proofs.Ytfgkkflbpfocjaa.fl Rg.cells (T ++ [x]))) (hB : Below w.heap.size w w5) : RcK w (w5.setCell ⟨w.heap.size + 1, 3, none⟩ (.slice A' (T.length + 1) c')) g r fl' (T ++ [x]) K A' c' B d := by
  obtain ⟨k0, k1, ht, hk, _⟩ := h
  have ht' := World.ownsRow.alloc ht o
  have hk' := World.ownsRow.alloc hk o
  have k0' := (k0.alloc o).grown hg (blk_ne_own ht' (k0.alloc o) (by decide))
  have k1' := (k1.alloc o).grown hg (blk_ne_own ht' (k1.alloc o) (by decide))
  have hk2 := World.ownsRow.kept hk' hg (own_two hk' ht' (by decide))
  have e : (T ++ [x]).length = T.length + 1 := by simp
  have q1 := k1'.set 3 (.slice A' (T.length + 1) c')
  have q2 := ho_far (a := ⟨w.heap.size + 1, 3, none⟩) hown k1' (by decide) (.slice A' (T.length + 1) c')
  refine ⟨k0'.far (by simp) _, ?_, ?_, ho_far (a := ⟨w.heap.size + 1, 3, none⟩) hk2 k1' (by decide) _, bset hB (p := ⟨w.heap.size + 1, 3, none⟩) (Nat.le_succ _) _⟩
  · rw [e]; simpa using q1
  · rw [e] at q2 ⊢; exact q2
theorem RcK.tk0 (h : RcK w wx g r fl' T K A c B d) {o : Obj} (hg : (wx.alloc o).grownBy w5 (Value.slice A T.length c).ownBlock) :
    Blk w5 w.heap.size 29 #[.int .u64 0, .int .u64 0, .int .u64 0, .slice none 0 0, .slice none 0 0] ∧ Blk w5 (w.heap.size + 1) 29 #[.int .u64 g, .int .u64 r, .int .u64 fl', .slice A T.length c, .slice B K.length d] := by
  obtain ⟨k0, k1, ht, hk, _⟩ := h
  have ht' := World.ownsRow.alloc ht o
  exact ⟨(k0.alloc o).grown hg (blk_ne_own ht' (k0.alloc o) (by decide)), (k1.alloc o).grown hg (blk_ne_own ht' (k1.alloc o) (by decide))⟩
theorem RcK.kp0 (h : RcK w wx g r fl' T K A c B d) {o : Obj} (hg : (wx.alloc o).grownBy w5 (Value.slice B K.length d).ownBlock) :
    Blk w5 w.heap.size 29 #[.int .u64 0, .int .u64 0, .int .u64 0, .slice none 0 0, .slice none 0 0] ∧ Blk w5 (w.heap.size + 1) 29 #[.int .u64 g, .int .u64 r, .int .u64 fl', .slice A T.length c, .slice B K.length d] := by
  obtain ⟨k0, k1, ht, hk, _⟩ := h
  have hk' := World.ownsRow.alloc hk o
  exact ⟨(k0.alloc o).grown hg (blk_ne_own hk' (k0.alloc o) (by decide)), (k1.alloc o).grown hg (blk_ne_own hk' (k1.alloc o) (by decide))⟩
theorem RcK.put5 (h : RcK w wx g r fl' T K A c B d) (a1 a2 a3 a4 a5 : Value) : RgsB w.heap.size (((((wx.setCell ⟨w.heap.size, 0, none⟩ a1).setCell ⟨w.heap.size, 1, none⟩ a2).setCell ⟨w.heap.size, 2, none⟩ a3).setCell ⟨w.heap.size, 3, none⟩ a4).setCell ⟨w.heap.size, 4, none⟩ a5) (.slice A T.length c) T ∧
    KpsB w.heap.size (((((wx.setCell ⟨w.heap.size, 0, none⟩ a1).setCell ⟨w.heap.size, 1, none⟩ a2).setCell ⟨w.heap.size, 2, none⟩ a3).setCell ⟨w.heap.size, 3, none⟩ a4).setCell ⟨w.heap.size, 4, none⟩ a5) (.slice B K.length d) K ∧
    Below w.heap.size w (((((wx.setCell ⟨w.heap.size, 0, none⟩ a1).setCell ⟨w.heap.size, 1, none⟩ a2).setCell ⟨w.heap.size, 2, none⟩ a3).setCell ⟨w.heap.size, 3, none⟩ a4).setCell ⟨w.heap.size, 4, none⟩ a5) := by
  obtain ⟨k, _, ht, hk, hb⟩ := h
  have k1 := k.set 0 a1
  have k2 := k1.set 1 a2
  have k3 := k2.set 2 a3
  have k4 := k3.set 3 a4
  refine ⟨RowB.own (ho_far (a := ⟨w.heap.size, 4, none⟩) (ho_far (a := ⟨w.heap.size, 3, none⟩) (ho_far (a := ⟨w.heap.size, 2, none⟩) (ho_far (a := ⟨w.heap.size, 1, none⟩) (ho_far (a := ⟨w.heap.size, 0, none⟩) ht k (by decide) _) k1 (by decide) _) k2 (by decide) _) k3 (by decide) _) k4 (by decide) _) (Nat.le_refl _),
    RowB.own (ho_far (a := ⟨w.heap.size, 4, none⟩) (ho_far (a := ⟨w.heap.size, 3, none⟩) (ho_far (a := ⟨w.heap.size, 2, none⟩) (ho_far (a := ⟨w.heap.size, 1, none⟩) (ho_far (a := ⟨w.heap.size, 0, none⟩) hk k (by decide) _) k1 (by decide) _) k2 (by decide) _) k3 (by decide) _) k4 (by decide) _) (Nat.le_refl _), ?_⟩
  exact bset (bset (bset (bset (bset hb (p := ⟨w.heap.size, 0, none⟩) (Nat.le_refl _) _) (p := ⟨w.heap.size, 1, none⟩) (Nat.le_refl _) _) (p := ⟨w.heap.size, 2, none⟩) (Nat.le_refl _) _) (p := ⟨w.heap.size, 3, none⟩) (Nat.le_refl _) _) (p := ⟨w.heap.size, 4, none⟩) (Nat.le_refl _) _
theorem RcK.kp (h : RcK w wx g r fl' T K A c B d) {o : Obj} {x : Int} {B' : Option Addr} {d' : Nat} (hg : (wx.alloc o).grownBy w5 (Value.slice B K.length d).ownBlock)
    (hown : w5.ownsRow w.heap.size 22 1 (.slice B' (K.length + 1) d') (K ++ [x]).length (Go.Proofs.Ytfgkkflbpfocjaa.fl kc (K ++ [x]))) (hB : Below w.heap.size w w5) : RcK w (w5.setCell ⟨w.heap.size + 1, 4, none⟩ (.slice B' (K.length + 1) d')) g r fl' T (K ++ [x]) A c B' d' := by
  obtain ⟨k0, k1, ht, hk, _⟩ := h
  have ht' := World.ownsRow.alloc ht o
  have hk' := World.ownsRow.alloc hk o
  have k0' := (k0.alloc o).grown hg (blk_ne_own hk' (k0.alloc o) (by decide))
  have k1' := (k1.alloc o).grown hg (blk_ne_own hk' (k1.alloc o) (by decide))
  have ht2 := World.ownsRow.kept ht' hg (own_two ht' hk' (by decide))
  have e : (K ++ [x]).length = K.length + 1 := by simp
  have q1 := k1'.set 4 (.slice B' (K.length + 1) d')
  have q2 := ho_far (a := ⟨w.heap.size + 1, 4, none⟩) hown k1' (by decide) (.slice B' (K.length + 1) d')
  refine ⟨k0'.far (by simp) _, ?_, ho_far (a := ⟨w.heap.size + 1, 4, none⟩) ht2 k1' (by decide) _, ?_, bset hB (p := ⟨w.heap.size + 1, 4, none⟩) (Nat.le_succ _) _⟩
  · rw [e]; simpa using q1
  · rw [e] at q2 ⊢; exact q2
end
/-- a receiver's ledger of at most 12 rounds -/
def ReceiverPost (w : World) (e : Ending) (w' : World) : Prop := ∃ z A c B d, (okR z ∧ WfR z ∧ z.tk.length ≤ 12 ∧ z.kp.length ≤ 12 ∧ z.g ≤ 1000) ∧ e = .returned (.agg #[.int .u64 z.g, .int .u64 z.r, .int .u64 z.fl, .slice A z.tk.length c, .slice B z.kp.length d]) ∧ RgsB w.heap.size w' (.slice A z.tk.length c) z.tk ∧ KpsB w.heap.size w' (.slice B z.kp.length d) z.kp ∧ Below w.heap.size w w'
def RecMid (w : World) (xs : List Int) (a4 a5 : Value) (wr : World) : Prop := ∃ (i : Nat) (p g f : Int) (T : List Rg) (K : List Int) (A : Option Addr) (c : Nat) (B : Option Addr) (d : Nat), RecI i ⟨g, 0, f, T, K⟩ p ∧ i ≤ 12 ∧ i ≤ xs.length ∧ a4 = .int .u64 p ∧ a5 = .int .i64 i ∧ RcK w wr g 0 f T K A c B d

set_option maxRecDepth 100000 in
set_option maxHeartbeats 8000000 in
theorem Receiver_any (xs : List Int) (v : Value) (w : World) (hS : SlAt w 1 v xs.length (ints xs)) :
    Calls Try.prog 69 #[v] w (ReceiverPost w) := by
  obtain ⟨A0, c0, rfl, hc1, hc2, hR⟩ := hS
  go_enter Try.func69, Try.ntmps69
  obtain ⟨wo, hwo⟩ : ∃ wo, w = wo := ⟨_, rfl⟩
  subst hwo
  go_upto_region 2 with fail
  go_wp2_with fail
  go_loopw [4, 5] (fun a b wr => RecMid w xs a b wr) (fun _ b _ => xs.length - (intOf b).toNat)
  case atStart =>
    refine ⟨0, 0, 300, 0, [], [], none, 0, none, 0, recI_zero, by omega, by omega, rfl, rfl, ?_, ?_, ?_, ?_, ?_⟩
    · exact (Blk.new _ _ _).alloc _
    · exact Blk.new1 _ _ _ _
    · exact World.ownsRow_nil _ _ _ _
    · exact World.ownsRow_nil _ _ _ _
    · exact (by repeat (first | with_reducible exact Below.refl _ _ | with_reducible refine Below.drew ?_ | with_reducible refine below_drewN ?_ _ | with_reducible refine bal ?_ _ | with_reducible refine bset ?_ (by first | (simp; done) | (simp; omega)) _ | with_reducible refine bnext ?_ (by assumption) | with_reducible assumption))
  case round =>
    obtain ⟨i, p, g, f, T, K, A, c, B, d, hI, hi12, hix, rfl, rfl, hK⟩ := hrel
    have HI := Lib.hid hI
    have HK := Lib.hid hK
    have hg := hI.g
    have hf := hI.fl
    have hp := hI.pb
    have hlT := hI.nt
    have hlK := hI.nk
    dsimp only at hg hf hlT hlK
    have hlt := hK.2.1.lt
    obtain ⟨d0, d1, d2, d3, d4⟩ := hK.2.1.c5
    obtain ⟨e0, e1, e2, e3, e4⟩ := hK.1.c5
    obtain ⟨f0, f1, f2, f3, f4⟩ := hK.1.f5
    obtain ⟨m0, m1, m2, m3, m4⟩ := hK.2.1.f5
    have hB := hK.2.2.2.2
    clear hI hK
    by_cases h1 : i < xs.length
    · have hi1 : (i : Int) < xs.length := by omega
      by_cases h2 : i < 12
      · have hi2 : (i : Int) < 12 := by omega
        obtain ⟨b, o, e, hbl, hx⟩ := hR.2 (by omega)
        cases e
        obtain ⟨x, hx0⟩ : ∃ x, xs[i]? = some x := ⟨_, List.getElem?_eq_getElem h1⟩
        have hcx : wr.cell? ⟨b, o + i, none⟩ = some (.int .i64 x) := by
          rw [(bcell hB).1 _ _ hbl]
          exact hx i _ (by simp [ints, hx0])
        clear hx hx0
        go_wp2_with fail
        refine (Mod_rng _ _ _ (by decide) (by decide)).mono ?_
        rintro e wq ⟨m, ⟨hm0, hm1⟩, rfl, rfl⟩
        obtain ⟨q, hq⟩ : ∃ q, m.tdiv 4 = q := ⟨_, rfl⟩
        have hq0 : 0 ≤ q ∧ q ≤ 262144 := by rw [← hq, Int.tdiv_eq_ediv_of_nonneg hm0]; omega
        obtain ⟨z, hz⟩ : ∃ z, q.tmod 9 = z := ⟨_, rfl⟩
        have hz0 : 0 ≤ z ∧ z < 9 := by rw [← hz, Int.tmod_eq_emod_of_nonneg hq0.1]; omega
        obtain ⟨q3, hq3⟩ : ∃ q, m.tdiv 36 = q := ⟨_, rfl⟩
        have hq30 : 0 ≤ q3 ∧ q3 ≤ 262144 := by rw [← hq3, Int.tdiv_eq_ediv_of_nonneg hm0]; omega
        obtain ⟨y, hy⟩ : ∃ y, q3.tmod 20 = y := ⟨_, rfl⟩
        have hy0 : 0 ≤ y ∧ y < 20 := by rw [← hy, Int.tmod_eq_emod_of_nonneg hq30.1]; omega
        obtain ⟨q7, hq7⟩ : ∃ q, m.tdiv 720 = q := ⟨_, rfl⟩
        have hq70 : 0 ≤ q7 ∧ q7 ≤ 262144 := by rw [← hq7, Int.tdiv_eq_ediv_of_nonneg hm0]; omega
        obtain ⟨bb, hbb⟩ : ∃ y, q7.tmod 2 = y := ⟨_, rfl⟩
        have hbb0 : 0 ≤ bb ∧ bb < 2 := by rw [← hbb, Int.tmod_eq_emod_of_nonneg hq70.1]; omega
        obtain ⟨d8, hd8⟩ : ∃ d, m.tmod 8 = d := ⟨_, rfl⟩
        have hd80 : 0 ≤ d8 ∧ d8 < 8 := by rw [← hd8, Int.tmod_eq_emod_of_nonneg hm0]; omega
        obtain ⟨dd, hd⟩ : ∃ d, m.tmod 4 = d := ⟨_, rfl⟩
        have hd0 : 0 ≤ dd ∧ dd < 4 := by rw [← hd, Int.tmod_eq_emod_of_nonneg hm0]; omega
        have hix1 : (i : Int) + 1 ≤ 12 := by omega
        go_upto_region 12 with fail
        by_cases hcd : dd ≤ 1
        · have key : dd = 0 ∨ dd = 1 := by omega
          by_cases hT : T.length = 0
          · by_cases h8 : d8 = 0
            · obtain rfl : T = [] := List.eq_nil_of_length_eq_zero hT
              subst h8
              rcases key with rfl | rfl
              all_goals
                go_upto_region 16 with fail
                have HM := Lib.hid (rg_lit1 (a := p) (b := p + (1 + y)) (Blk.new wr 74 #[.int .u64 (p), .int .u64 (p + (1 + y))]))
                have HTA := Lib.hid (World.ownsRow.alloc HK.out.2.2.1 (.cells #[.int .u64 (p), .int .u64 (p + (1 + y))] 74))
                have HBA := Lib.hid (bal hB (.cells #[.int .u64 (p), .int .u64 (p + (1 + y))] 74))
                go_upto_region 17 with (at_builtin; refine wpList_app_all (f := Rg.cells) rfl _ _ 26 rfl w.heap.size 74 2 16 infoRg rfl (by decide) Try.underlying26 rg2 rg_one _ w w.heap.size [] [⟨p, p + (1 + y)⟩] _ _ (by rfl) (by rfl) HM.out HTA.out HBA.out (Nat.le_refl _) (by first | (simp; done) | (simp; omega)) (by first | (simp; done) | (simp; omega)) (by unfold maxLen; first | (simp; done) | (simp; omega)) ?_; intro A5 c5 w5 hown hB5 hg5; try simp only [List.length_cons, List.length_nil, Nat.zero_add] at hown; try simp only [List.length_cons, List.length_nil, Nat.zero_add]; have kk := RcK.tk0 HK.out hg5; have hk6 : Hid (RcK w (w5.setCell ⟨w.heap.size + 1, 3, none⟩ (.slice A5 1 c5)) g 0 f ([⟨p, p + (1 + y)⟩]) K A5 c5 B d) := Lib.hid (RcK.tk HK.out hg5 hown hB5); obtain ⟨l0, l1, l2, l3, l4⟩ := kk.2.c5; obtain ⟨p0, p1, p2, p3, p4⟩ := kk.2.f5; have hl5 := kk.2.lt; clear kk hown hB5 hg5 d0 d1 d2 d3 d4 e0 e1 e2 e3 e4 f0 f1 f2 f3 f4 m0 m1 m2 m3 m4 hcx)
                generalize w5.setCell ⟨w.heap.size + 1, 3, none⟩ (.slice A5 1 c5) = w6 at hk6 ⊢
                clear l0 l1 l2 l3 l4 p0 p1 p2 p3 p4 hl5
                have hl6 := hk6.out.2.1.lt
                obtain ⟨l0, l1, l2, l3, l4⟩ := hk6.out.2.1.c5
                obtain ⟨p0, p1, p2, p3, p4⟩ := hk6.out.2.1.f5
                by_cases hkp : bb = 0
                · subst hkp
                  have HM2 := Lib.hid (kp_lit1 (a := p) (Blk.new w6 22 #[.int .u64 (p)]))
                  have HTA2 := Lib.hid (World.ownsRow.alloc hk6.out.2.2.2.1 (.cells #[.int .u64 (p)] 22))
                  have HBA2 := Lib.hid (bal hk6.out.2.2.2.2 (.cells #[.int .u64 (p)] 22))
                  have hsz := hk6.out.2.2.2.2.size
                  go_upto_region 19 with (at_builtin; refine wpList_app_all (f := kc) rfl _ _ 27 rfl w.heap.size 22 1 8 infoU rfl (by decide) Try.underlying27 kc1 kc_one _ w w.heap.size K [p] _ _ (by rfl) (by rfl) HM2.out HTA2.out HBA2.out (Nat.le_refl _) (by first | (simp; done) | (simp; omega)) (by first | (simp; done) | (simp; omega)) (by unfold maxLen; first | (simp; done) | (simp; omega)) ?_; intro B5 d5 w7 hown hB5 hg5; try simp only [List.length_cons, List.length_nil, Nat.zero_add] at hown; try simp only [List.length_cons, List.length_nil, Nat.zero_add]; have kk := RcK.kp0 hk6.out hg5; have hk8 := Lib.hid (RcK.kp hk6.out hg5 hown hB5); clear l0 l1 l2 l3 l4 p0 p1 p2 p3 p4; obtain ⟨l0, l1, l2, l3, l4⟩ := kk.2.c5; obtain ⟨p0, p1, p2, p3, p4⟩ := kk.2.f5; have hl7 := kk.2.lt; clear kk hown hB5 hg5)
                  go_wp2_with fail
                  go_roundw
                  case rel => exact ⟨i + 1, p + (1 + y), g, f, [⟨p, p + (1 + y)⟩], K ++ [p], A5, c5, B5, d5, (by have q := recI_keep HI.out (a := 0) (s := 1 + y) (by omega) (fun h => absurd rfl h) (by omega); rwa [Int.add_zero] at q), by omega, by omega, rfl, by go_num, hk8.out⟩
                  case measure => simp [intOf]; omega
                · have hkb : (bb == 0) = false := by simp [hkp]
                  go_wp2_with fail
                  go_roundw
                  case rel => exact ⟨i + 1, p + (1 + y), g, f, [⟨p, p + (1 + y)⟩], K, A5, c5, B, d, (by have q := recI_take HI.out (a := 0) (s := 1 + y) (by omega) (fun h => absurd rfl h) (by omega); rwa [Int.add_zero] at q), by omega, by omega, rfl, by go_num, hk6.out⟩
                  case measure => simp [intOf]; omega
            · obtain rfl : T = [] := List.eq_nil_of_length_eq_zero hT
              have h8b : (d8 == 0) = false := by simp [h8]
              rcases key with rfl | rfl
              all_goals
                go_upto_region 16 with fail
                have HM := Lib.hid (rg_lit1 (a := p + (1 + z)) (b := p + (1 + z) + (1 + y)) (Blk.new wr 74 #[.int .u64 (p + (1 + z)), .int .u64 (p + (1 + z) + (1 + y))]))
                have HTA := Lib.hid (World.ownsRow.alloc HK.out.2.2.1 (.cells #[.int .u64 (p + (1 + z)), .int .u64 (p + (1 + z) + (1 + y))] 74))
                have HBA := Lib.hid (bal hB (.cells #[.int .u64 (p + (1 + z)), .int .u64 (p + (1 + z) + (1 + y))] 74))
                go_upto_region 17 with (at_builtin; refine wpList_app_all (f := Rg.cells) rfl _ _ 26 rfl w.heap.size 74 2 16 infoRg rfl (by decide) Try.underlying26 rg2 rg_one _ w w.heap.size [] [⟨p + (1 + z), p + (1 + z) + (1 + y)⟩] _ _ (by rfl) (by rfl) HM.out HTA.out HBA.out (Nat.le_refl _) (by first | (simp; done) | (simp; omega)) (by first | (simp; done) | (simp; omega)) (by unfold maxLen; first | (simp; done) | (simp; omega)) ?_; intro A5 c5 w5 hown hB5 hg5; try simp only [List.length_cons, List.length_nil, Nat.zero_add] at hown; try simp only [List.length_cons, List.length_nil, Nat.zero_add]; have kk := RcK.tk0 HK.out hg5; have hk6 : Hid (RcK w (w5.setCell ⟨w.heap.size + 1, 3, none⟩ (.slice A5 1 c5)) g 0 f ([⟨p + (1 + z), p + (1 + z) + (1 + y)⟩]) K A5 c5 B d) := Lib.hid (RcK.tk HK.out hg5 hown hB5); obtain ⟨l0, l1, l2, l3, l4⟩ := kk.2.c5; obtain ⟨p0, p1, p2, p3, p4⟩ := kk.2.f5; have hl5 := kk.2.lt; clear kk hown hB5 hg5 d0 d1 d2 d3 d4 e0 e1 e2 e3 e4 f0 f1 f2 f3 f4 m0 m1 m2 m3 m4 hcx)
                generalize w5.setCell ⟨w.heap.size + 1, 3, none⟩ (.slice A5 1 c5) = w6 at hk6 ⊢
                clear l0 l1 l2 l3 l4 p0 p1 p2 p3 p4 hl5
                have hl6 := hk6.out.2.1.lt
                obtain ⟨l0, l1, l2, l3, l4⟩ := hk6.out.2.1.c5
                obtain ⟨p0, p1, p2, p3, p4⟩ := hk6.out.2.1.f5
                by_cases hkp : bb = 0
                · subst hkp
                  have HM2 := Lib.hid (kp_lit1 (a := p + (1 + z)) (Blk.new w6 22 #[.int .u64 (p + (1 + z))]))
                  have HTA2 := Lib.hid (World.ownsRow.alloc hk6.out.2.2.2.1 (.cells #[.int .u64 (p + (1 + z))] 22))
                  have HBA2 := Lib.hid (bal hk6.out.2.2.2.2 (.cells #[.int .u64 (p + (1 + z))] 22))
                  have hsz := hk6.out.2.2.2.2.size
                  go_upto_region 19 with (at_builtin; refine wpList_app_all (f := kc) rfl _ _ 27 rfl w.heap.size 22 1 8 infoU rfl (by decide) Try.underlying27 kc1 kc_one _ w w.heap.size K [p + (1 + z)] _ _ (by rfl) (by rfl) HM2.out HTA2.out HBA2.out (Nat.le_refl _) (by first | (simp; done) | (simp; omega)) (by first | (simp; done) | (simp; omega)) (by unfold maxLen; first | (simp; done) | (simp; omega)) ?_; intro B5 d5 w7 hown hB5 hg5; try simp only [List.length_cons, List.length_nil, Nat.zero_add] at hown; try simp only [List.length_cons, List.length_nil, Nat.zero_add]; have kk := RcK.kp0 hk6.out hg5; have hk8 := Lib.hid (RcK.kp hk6.out hg5 hown hB5); clear l0 l1 l2 l3 l4 p0 p1 p2 p3 p4; obtain ⟨l0, l1, l2, l3, l4⟩ := kk.2.c5; obtain ⟨p0, p1, p2, p3, p4⟩ := kk.2.f5; have hl7 := kk.2.lt; clear kk hown hB5 hg5)
                  go_wp2_with fail
                  go_roundw
                  case rel => exact ⟨i + 1, p + (1 + z) + (1 + y), g, f, [⟨p + (1 + z), p + (1 + z) + (1 + y)⟩], K ++ [p + (1 + z)], A5, c5, B5, d5, recI_keep HI.out (a := 1 + z) (s := 1 + y) (by omega) (fun h => absurd rfl h) (by omega), by omega, by omega, rfl, by go_num, hk8.out⟩
                  case measure => simp [intOf]; omega
                · have hkb : (bb == 0) = false := by simp [hkp]
                  go_wp2_with fail
                  go_roundw
                  case rel => exact ⟨i + 1, p + (1 + z) + (1 + y), g, f, [⟨p + (1 + z), p + (1 + z) + (1 + y)⟩], K, A5, c5, B, d, recI_take HI.out (a := 1 + z) (s := 1 + y) (by omega) (fun h => absurd rfl h) (by omega), by omega, by omega, rfl, by go_num, hk6.out⟩
                  case measure => simp [intOf]; omega
          · have hTi : ¬ (T.length : Int) = 0 := by omega
            have hTb : ((T.length : Int) == 0) = false := by rw [beq_eq_false_iff_ne]; exact hTi
            rcases key with rfl | rfl
            all_goals
              go_upto_region 16 with fail
              have HM := Lib.hid (rg_lit1 (a := p + (1 + z)) (b := p + (1 + z) + (1 + y)) (Blk.new wr 74 #[.int .u64 (p + (1 + z)), .int .u64 (p + (1 + z) + (1 + y))]))
              have HTA := Lib.hid (World.ownsRow.alloc HK.out.2.2.1 (.cells #[.int .u64 (p + (1 + z)), .int .u64 (p + (1 + z) + (1 + y))] 74))
              have HBA := Lib.hid (bal hB (.cells #[.int .u64 (p + (1 + z)), .int .u64 (p + (1 + z) + (1 + y))] 74))
              go_upto_region 17 with (at_builtin; refine wpList_app_all (f := Rg.cells) rfl _ _ 26 rfl w.heap.size 74 2 16 infoRg rfl (by decide) Try.underlying26 rg2 rg_one _ w w.heap.size T [⟨p + (1 + z), p + (1 + z) + (1 + y)⟩] _ _ (by rfl) (by rfl) HM.out HTA.out HBA.out (Nat.le_refl _) (by first | (simp; done) | (simp; omega)) (by first | (simp; done) | (simp; omega)) (by unfold maxLen; first | (simp; done) | (simp; omega)) ?_; intro A5 c5 w5 hown hB5 hg5; try simp only [List.length_cons, List.length_nil, Nat.zero_add] at hown; try simp only [List.length_cons, List.length_nil, Nat.zero_add]; have kk := RcK.tk0 HK.out hg5; have hk6 : Hid (RcK w (w5.setCell ⟨w.heap.size + 1, 3, none⟩ (.slice A5 (T.length + 1) c5)) g 0 f (T ++ [⟨p + (1 + z), p + (1 + z) + (1 + y)⟩]) K A5 c5 B d) := Lib.hid (RcK.tk HK.out hg5 hown hB5); obtain ⟨l0, l1, l2, l3, l4⟩ := kk.2.c5; obtain ⟨p0, p1, p2, p3, p4⟩ := kk.2.f5; have hl5 := kk.2.lt; clear kk hown hB5 hg5 d0 d1 d2 d3 d4 e0 e1 e2 e3 e4 f0 f1 f2 f3 f4 m0 m1 m2 m3 m4 hcx)
              generalize w5.setCell ⟨w.heap.size + 1, 3, none⟩ (.slice A5 (T.length + 1) c5) = w6 at hk6 ⊢
              clear l0 l1 l2 l3 l4 p0 p1 p2 p3 p4 hl5
              have hl6 := hk6.out.2.1.lt
              obtain ⟨l0, l1, l2, l3, l4⟩ := hk6.out.2.1.c5
              obtain ⟨p0, p1, p2, p3, p4⟩ := hk6.out.2.1.f5
              by_cases hkp : bb = 0
              · subst hkp
                have HM2 := Lib.hid (kp_lit1 (a := p + (1 + z)) (Blk.new w6 22 #[.int .u64 (p + (1 + z))]))
                have HTA2 := Lib.hid (World.ownsRow.alloc hk6.out.2.2.2.1 (.cells #[.int .u64 (p + (1 + z))] 22))
                have HBA2 := Lib.hid (bal hk6.out.2.2.2.2 (.cells #[.int .u64 (p + (1 + z))] 22))
                have hsz := hk6.out.2.2.2.2.size
                go_upto_region 19 with (at_builtin; refine wpList_app_all (f := kc) rfl _ _ 27 rfl w.heap.size 22 1 8 infoU rfl (by decide) Try.underlying27 kc1 kc_one _ w w.heap.size K [p + (1 + z)] _ _ (by rfl) (by rfl) HM2.out HTA2.out HBA2.out (Nat.le_refl _) (by first | (simp; done) | (simp; omega)) (by first | (simp; done) | (simp; omega)) (by unfold maxLen; first | (simp; done) | (simp; omega)) ?_; intro B5 d5 w7 hown hB5 hg5; try simp only [List.length_cons, List.length_nil, Nat.zero_add] at hown; try simp only [List.length_cons, List.length_nil, Nat.zero_add]; have kk := RcK.kp0 hk6.out hg5; have hk8 := Lib.hid (RcK.kp hk6.out hg5 hown hB5); clear l0 l1 l2 l3 l4 p0 p1 p2 p3 p4; obtain ⟨l0, l1, l2, l3, l4⟩ := kk.2.c5; obtain ⟨p0, p1, p2, p3, p4⟩ := kk.2.f5; have hl7 := kk.2.lt; clear kk hown hB5 hg5)
                go_wp2_with fail
                go_roundw
                case rel => exact ⟨i + 1, p + (1 + z) + (1 + y), g, f, T ++ [⟨p + (1 + z), p + (1 + z) + (1 + y)⟩], K ++ [p + (1 + z)], A5, c5, B5, d5, recI_keep HI.out (a := 1 + z) (s := 1 + y) (by omega) (fun _ => by omega) (by omega), by omega, by omega, rfl, by go_num, hk8.out⟩
                case measure => simp [intOf]; omega
              · have hkb : (bb == 0) = false := by simp [hkp]
                go_wp2_with fail
                go_roundw
                case rel => exact ⟨i + 1, p + (1 + z) + (1 + y), g, f, T ++ [⟨p + (1 + z), p + (1 + z) + (1 + y)⟩], K, A5, c5, B, d, recI_take HI.out (a := 1 + z) (s := 1 + y) (by omega) (fun _ => by omega) (by omega), by omega, by omega, rfl, by go_num, hk6.out⟩
                case measure => simp [intOf]; omega
        · by_cases hd2 : dd = 2
          · subst hd2
            go_wp2_with fail
            go_roundw
            case rel => exact ⟨i + 1, p, g + (1 + y), f, T, K, A, c, B, d, recI_more HI.out (by omega) (by omega), by omega, by omega, rfl, by go_num, HK.out.gr _⟩
            case measure => simp [intOf]; omega
          · obtain rfl : dd = 3 := by omega
            by_cases hT : T.length = 0
            · obtain rfl : T = [] := List.eq_nil_of_length_eq_zero hT
              go_wp2_with fail
              go_roundw
              case rel => exact ⟨i + 1, f + (1 + z), g, f + (1 + z), [], K, A, c, B, d, recI_floor HI.out (by omega) (by omega), by omega, by omega, rfl, by go_num, HK.out.fl _⟩
              case measure => simp [intOf]; omega
            · have hTi : ¬ (T.length : Int) = 0 := by omega
              go_wp2_with fail
              go_roundw
              case rel => exact ⟨i + 1, p, g, f, T, K, A, c, B, d, recI_next HI.out, by omega, by omega, rfl, by go_num, HK.out⟩
              case measure => simp [intOf]; omega
      · have hi2 : ¬ (i : Int) < 12 := by omega
        have hxi : (0 : Int) < xs.length := by omega
        obtain ⟨b, o, e, hbl, hx⟩ := hR.2 (by omega)
        cases e
        obtain ⟨x, hx0⟩ : ∃ x, xs[0]? = some x := ⟨_, List.getElem?_eq_getElem (by omega)⟩
        have hcx : wr.cell? ⟨b, o, none⟩ = some (.int .i64 x) := by
          have := (bcell hB).1 b o hbl
          rw [this]
          have q := hx 0 _ (by simp [ints, hx0] : (ints xs)[0]? = some (.int .i64 x))
          rwa [Nat.add_zero] at q
        clear hx hx0
        go_wp2_with fail
        refine (Mod_rng _ _ _ (by decide) (by decide)).mono ?_
        rintro e wq ⟨m, ⟨hm0, hm1⟩, rfl, rfl⟩
        go_wp2_with fail
        refine bodyPost_ret (v := .agg #[.int .u64 (g + 400), .int .u64 m, .int .u64 f, .slice A T.length c, .slice B K.length d]) (by simp [results, Try.results69, go_sem, d0, d1, d2, d3, d4, e0, e1, e2, e3, e4]) rfl ?_
        have ok := recI_ok HI.out hi12 (g := g + 400) (q := m) (by omega) (by dsimp only; omega) (.inl (by omega))
        exact ⟨⟨g + 400, m, f, T, K⟩, A, c, B, d, ⟨ok.1, ok.2, by dsimp only; omega, by dsimp only; omega, by have := HI.out.g; dsimp only at this ⊢; omega⟩, rfl, ((HK.out.re m).gr (g + 400)).put5 _ _ _ _ _⟩
    · have hi1 : ¬ (i : Int) < xs.length := by omega
      by_cases hxs : xs.length = 0
      · have hxi : ¬ (0 : Int) < xs.length := by omega
        go_wp2_with fail
        refine bodyPost_ret (v := .agg #[.int .u64 g, .int .u64 0, .int .u64 f, .slice A T.length c, .slice B K.length d]) (by simp [results, Try.results69, go_sem, d0, d1, d2, d3, d4, e0, e1, e2, e3, e4]) rfl ?_
        have ok := recI_ok HI.out hi12 (g := g) (q := 0) (by omega) (by dsimp only; omega) (.inr ⟨rfl, by omega⟩)
        exact ⟨⟨g, 0, f, T, K⟩, A, c, B, d, ⟨ok.1, ok.2, by dsimp only; omega, by dsimp only; omega, by have := HI.out.g; dsimp only at this ⊢; omega⟩, rfl, HK.out.put5 _ _ _ _ _⟩
      · skip
        have hxi : (0 : Int) < xs.length := by omega
        obtain ⟨b, o, e, hbl, hx⟩ := hR.2 (by omega)
        cases e
        obtain ⟨x, hx0⟩ : ∃ x, xs[0]? = some x := ⟨_, List.getElem?_eq_getElem (by omega)⟩
        have hcx : wr.cell? ⟨b, o, none⟩ = some (.int .i64 x) := by
          have := (bcell hB).1 b o hbl
          rw [this]
          have q := hx 0 _ (by simp [ints, hx0] : (ints xs)[0]? = some (.int .i64 x))
          rwa [Nat.add_zero] at q
        clear hx hx0
        go_wp2_with fail
        refine (Mod_rng _ _ _ (by decide) (by decide)).mono ?_
        rintro e wq ⟨m, ⟨hm0, hm1⟩, rfl, rfl⟩
        go_wp2_with fail
        refine bodyPost_ret (v := .agg #[.int .u64 (g + 400), .int .u64 m, .int .u64 f, .slice A T.length c, .slice B K.length d]) (by simp [results, Try.results69, go_sem, d0, d1, d2, d3, d4, e0, e1, e2, e3, e4]) rfl ?_
        have ok := recI_ok HI.out hi12 (g := g + 400) (q := m) (by omega) (by dsimp only; omega) (.inl (by omega))
        exact ⟨⟨g + 400, m, f, T, K⟩, A, c, B, d, ⟨ok.1, ok.2, by dsimp only; omega, by dsimp only; omega, by have := HI.out.g; dsimp only at this ⊢; omega⟩, rfl, ((HK.out.re m).gr (g + 400)).put5 _ _ _ _ _⟩
end Go.Proofs.Ytfgkkflbpfocjaa

namespace Go.Proofs.Ytfgkkflbpfocjaa
set_option linter.unusedVariables false
set_option linter.unusedSimpArgs false

theorem chk_zS : (chk zSend).1 = 0 := by kernel_rfl
theorem chkR_zR : (chkR zRec).1 = 0 := by kernel_rfl
theorem chkP_intro {p : Pr} (h1 : ¬ p.out) (h2 : (chk p.s).1 = 0) (h3 : (chkR p.r).1 = 0) (h4 : p.theirs = 0 → p.empty) : chkP p = 0 := by
  unfold chkP
  rw [if_neg h1, if_neg (by rw [h2]; exact fun c => c rfl), if_neg (by rw [h3]; exact fun c => c rfl), if_neg (fun c => c.2 (h4 c.1))]
theorem frE_hlo {m y : Int} (h1 : 1 ≤ m) (h2 : m ≤ 1099511627776) (h3 : 0 ≤ y) (h4 : y ≤ 1099511627776) : frE (hlo m y) = 0 := by
  unfold frE
  rw [if_neg (by show ¬ ((1 : Int) < 1 ∨ (7 : Int) < 1); omega), if_neg (by unfold Fr.out hlo; dsimp only; omega), if_neg (by unfold Fr.aBig Fr.bBad hlo; dsimp only; omega)]
  have e : (hlo m y).inE = 0 := by unfold Fr.inE hlo; rw [if_neg (by dsimp only; omega), if_neg (by dsimp only; omega)]
  rw [if_neg (by rw [e]; exact fun c => c rfl)]
  have b : (hlo m y).bare := ⟨fun _ => rfl, fun _ => rfl, fun _ => ⟨rfl, rfl, rfl⟩, fun _ => rfl⟩
  rw [if_neg (fun c => c b)]
theorem frE_grt {m y : Int} (h1 : 1 ≤ m) (h2 : m ≤ 1099511627776) (h3 : 0 ≤ y) (h4 : y ≤ 1099511627776) : frE (grt m y) = 0 := by
  unfold frE
  rw [if_neg (by show ¬ ((2 : Int) < 1 ∨ (7 : Int) < 2); omega), if_neg (by unfold Fr.out grt; dsimp only; omega), if_neg (by unfold Fr.aBig Fr.bBad grt; dsimp only; omega)]
  have e : (grt m y).inE = 0 := by unfold Fr.inE grt; rw [if_neg (by dsimp only; omega), if_neg (by dsimp only; omega)]
  rw [if_neg (by rw [e]; exact fun c => c rfl)]
  have b : (grt m y).bare := ⟨fun h => absurd h (by show ¬ (2 : Int) = 1; decide), fun _ => rfl, fun _ => ⟨rfl, rfl, rfl⟩, fun _ => rfl⟩
  rw [if_neg (fun c => c b)]
/-- what is learnt of a frame is valid -/
theorem lrn_ok {p : Pr} {f : Fr} (hk : chkP p = 0) (hw : WfP p) (hm : 0 ≤ f.mine ∧ f.mine ≤ 1099511627776) : chkP (lrn p f) = 0 ∧ WfP (lrn p f) ∧ (lrn p f).node = p.node ∧ p.theirs ≤ (lrn p f).theirs ∧ f.mine ≤ (lrn p f).theirs ∧ ((lrn p f).theirs = p.theirs ∨ (lrn p f).theirs = f.mine) := by
  unfold lrn
  by_cases h : p.theirs < f.mine
  · rw [if_pos h]
    obtain ⟨h1, _⟩ := chkP_ok hk
    unfold Pr.out at h1
    refine ⟨chkP_intro (by unfold Pr.out; dsimp only; omega) chk_zS chkR_zR ?_, ⟨by dsimp only; omega, by dsimp only; omega, wf_z, wfR_z⟩, rfl, by dsimp only; omega, Int.le_refl _, .inr rfl⟩
    intro e
    dsimp only at e
    have := hw.th.1
    omega
  · rw [if_neg h]
    exact ⟨hk, hw, rfl, Int.le_refl _, by omega, .inl rfl⟩
theorem sure_ok {p : Pr} (hk : chkP p = 0) (hw : WfP p) (ht : 1 ≤ p.theirs) : chkP { p with sure := true, old := 0 } = 0 ∧ WfP { p with sure := true, old := 0 } := by
  obtain ⟨h1, h2, h3, h4⟩ := chkP_ok hk
  unfold Pr.out at h1
  refine ⟨chkP_intro (by unfold Pr.out; dsimp only; omega) h2 h3 (fun e => ?_), ⟨hw.th, by dsimp only; omega, hw.s, hw.r⟩⟩
  dsimp only at e
  omega
theorem met_ok {p : Pr} {b : Int} {f : Fr} (hk : chkP p = 0) (hw : WfP p) (hm : 1 ≤ f.mine ∧ f.mine ≤ 1099511627776) : chkP (met p b f).1 = 0 ∧ WfP (met p b f).1 ∧ (met p b f).1.node = p.node ∧ p.theirs ≤ (met p b f).1.theirs := by
  obtain ⟨l1, l2, l3, l4, l5, l6⟩ := lrn_ok (f := f) hk hw (by omega)
  unfold met
  by_cases h1 : f.mine < p.theirs
  · rw [if_pos h1]; exact ⟨hk, hw, rfl, Int.le_refl _⟩
  rw [if_neg h1]
  by_cases h2 : f.yours ≠ b
  · rw [if_pos h2]; exact ⟨l1, l2, l3, l4⟩
  rw [if_neg h2]
  obtain ⟨s1, s2⟩ := sure_ok l1 l2 (by omega)
  exact ⟨s1, s2, l3, l4⟩
theorem lrn_idem {p : Pr} {f : Fr} : lrn (lrn p f) f = lrn p f := by
  unfold lrn
  by_cases h : p.theirs < f.mine
  · rw [if_pos h]; exact if_neg (Int.lt_irrefl _)
  · rw [if_neg h, if_neg h]
theorem lrn_ge {p : Pr} {f : Fr} : ¬ (lrn p f).theirs < f.mine := by
  unfold lrn
  by_cases h : p.theirs < f.mine
  · rw [if_pos h]; exact Int.lt_irrefl _
  · rw [if_neg h]; exact h
theorem lrn_nlt {p : Pr} {f : Fr} (h : ¬ f.mine < p.theirs) : ¬ f.mine < (lrn p f).theirs := by
  unfold lrn
  by_cases c : p.theirs < f.mine
  · rw [if_pos c]; exact Int.lt_irrefl _
  · rw [if_neg c]; exact h
/-- a frame that is met twice -/
theorem met_twice (p : Pr) (b : Int) (f : Fr) : (met (met p b f).1 b f).1 = (met p b f).1 ∧ (met (met p b f).1 b f).2.1 = (met p b f).2.1 ∧ (met (met p b f).1 b f).2.2 = decide ((met p b f).2.1 = 2) ∧
    ((met p b f).2.1 = 1 → (met p b f).1 = p) ∧ ((met p b f).2.1 = 3 → (met p b f).1.sure = true ∧ (met p b f).1.old = 0) := by
  have key : ∀ q v ow ow', met p b f = (q, v, ow) → met q b f = (q, v, ow') → ow' = decide (v = 2) → (v = 1 → q = p) → (v = 3 → q.sure = true ∧ q.old = 0) → (met (met p b f).1 b f).1 = (met p b f).1 ∧ (met (met p b f).1 b f).2.1 = (met p b f).2.1 ∧ (met (met p b f).1 b f).2.2 = decide ((met p b f).2.1 = 2) ∧
    ((met p b f).2.1 = 1 → (met p b f).1 = p) ∧ ((met p b f).2.1 = 3 → (met p b f).1.sure = true ∧ (met p b f).1.old = 0) := by
    intro q v ow ow' e e2 h3 h4 h5
    rw [e]
    show (met q b f).1 = q ∧ (met q b f).2.1 = v ∧ (met q b f).2.2 = decide (v = 2) ∧ _
    rw [e2]
    exact ⟨rfl, rfl, h3, h4, h5⟩
  by_cases h1 : f.mine < p.theirs
  · have e : met p b f = (p, 1, false) := by unfold met; rw [if_pos h1]
    exact key _ _ _ _ e e (by decide) (fun _ => rfl) (fun h => by cases h)
  by_cases h2 : f.yours ≠ b
  · have e : met p b f = (lrn p f, 2, true) := by unfold met; rw [if_neg h1, if_pos h2]
    have e2 : met (lrn p f) b f = (lrn p f, 2, true) := by unfold met; rw [if_neg (lrn_nlt h1), if_pos h2, lrn_idem]
    exact key _ _ _ _ e e2 (by decide) (fun h => by cases h) (fun h => by cases h)
  · obtain ⟨q, hq⟩ : ∃ q, ({ lrn p f with sure := true, old := 0 } : Pr) = q := ⟨_, rfl⟩
    have e : met p b f = (q, 3, decide (p.theirs < f.mine)) := by rw [← hq]; unfold met; rw [if_neg h1, if_neg h2]
    have hqt : q.theirs = (lrn p f).theirs := by rw [← hq]
    have n1 : ¬ f.mine < q.theirs := by rw [hqt]; exact lrn_nlt h1
    have n2 : ¬ q.theirs < f.mine := by rw [hqt]; exact lrn_ge
    have e3 : lrn q f = q := if_neg n2
    have e4 : ({ q with sure := true, old := 0 } : Pr) = q := by rw [← hq]
    have e2 : met q b f = (q, 3, false) := by
      unfold met
      rw [if_neg n1, if_neg h2, e3, decide_eq_false n2]
      exact congrArg (fun x => (x, (3 : Int), false)) e4
    exact key _ _ _ _ e e2 (by decide) (fun h => by cases h) (fun _ => by rw [← hq]; exact ⟨rfl, rfl⟩)
theorem metE_zero {p : Pr} {b : Int} {f : Fr} (hk : chkP p = 0) (hb : bootOk b) (hf : frE f = 0) (hn : f.frm = p.node) : metE p b f = 0 := by
  unfold metE
  rw [if_neg (by rw [hk]; exact fun c => c rfl), if_neg (fun c => c hb), if_neg (by rw [hf]; exact fun c => c rfl), if_neg (fun c => c hn)]
end Go.Proofs.Ytfgkkflbpfocjaa

namespace Go.Proofs.Ytfgkkflbpfocjaa
open Go.RowKit
set_option linter.unusedVariables false
set_option linter.unusedSimpArgs false

structure MadeP (p : Pr) : Prop where
  wf : WfP p
  ok : chkP p = 0
  node : p.node = 2
  th : 0 ≤ p.theirs ∧ p.theirs ≤ 5
  old : 0 ≤ p.old ∧ p.old ≤ 499
  ls : p.s.sl.length ≤ 12
  lt : p.r.tk.length ≤ 12
  lk : p.r.kp.length ≤ 12
  rg : p.r.g ≤ 1000
  z : p.theirs = 0 → p = ⟨2, 0, false, 0, zSend, zRec⟩
  u : p.sure = true → p.old = 0
theorem madeP_zero : MadeP ⟨2, 0, false, 0, zSend, zRec⟩ :=
  ⟨wfP_small 2 0 false 0 (by decide) (by decide), by kernel_rfl, rfl, by decide, by decide, by decide, by decide, by decide, by decide, fun _ => rfl, fun h => by cases h⟩
theorem madeP_of {t old : Int} {su : Bool} {s : Led} {z : Rec} (h1 : 1 ≤ t) (h2 : t ≤ 5) (h3 : 0 ≤ old) (h4 : old ≤ 499) (h5 : su = true → old = 0) (hs : LedI 12 s) (hz : okR z ∧ WfR z ∧ z.tk.length ≤ 12 ∧ z.kp.length ≤ 12 ∧ z.g ≤ 1000) : MadeP ⟨2, t, su, old, s, z⟩ := by
  obtain ⟨ok, wf⟩ := ledI_ok hs (Nat.le_refl _)
  obtain ⟨z1, z2, z3, z4, z5⟩ := hz
  refine ⟨⟨by dsimp only; omega, by dsimp only; omega, wf, z2⟩, chkP_intro (by unfold Pr.out; dsimp only; omega) ok z1 (fun e => ?_), rfl, by dsimp only; omega, ⟨h3, h4⟩, ledI_len hs, z3, z4, z5, fun e => ?_, h5⟩
  · dsimp only at e; omega
  · dsimp only at e; omega
def MadePost (w : World) (e : Ending) (w' : World) : Prop := ∃ p V, MadeP p ∧ e = .returned V ∧ PrB w.heap.size w' V p ∧ Below w.heap.size w w'

set_option maxRecDepth 100000 in
set_option maxHeartbeats 8000000 in
theorem made_any (xs : List Int) (v : Value) (theirs : Int) (w : World) (hS : SlAt w 1 v xs.length (ints xs)) :
    Calls Try.prog 23 #[v, .int .i64 theirs] w (MadePost w) := by
  have HS := Lib.hid hS
  clear hS
  go_enter Try.func23, Try.ntmps23
  go_wp2_with (refine wpList_alloc_z (by rfl) 31 (by rfl) _ rfl #[.int .i64 0, .int .u64 0, .bool false, .int .u64 0, .int .u64 0, .int .u64 0, .int .u64 0, .slice none 0 0, .int .u64 0, .int .u64 0, .int .u64 0, .slice none 0 0, .slice none 0 0] (fun w => by kernel_rfl) ?_)
  refine (Mod_rng _ _ _ (by decide) (by decide)).mono ?_
  rintro e wq ⟨m, ⟨hm0, hm1⟩, rfl, rfl⟩
  obtain ⟨t, ht⟩ : ∃ t, m.tmod 6 = t := ⟨_, rfl⟩
  have ht0 : 0 ≤ t ∧ t ≤ 5 := by rw [← ht, Int.tmod_eq_emod_of_nonneg hm0]; omega
  have k0 := Blk.new w 31 #[.int .i64 0, .int .u64 0, .bool false, .int .u64 0, .int .u64 0, .int .u64 0, .int .u64 0, .slice none 0 0, .int .u64 0, .int .u64 0, .int .u64 0, .slice none 0 0, .slice none 0 0]
  have hB := bal (Below.refl w.heap.size w) (.cells #[.int .i64 0, .int .u64 0, .bool false, .int .u64 0, .int .u64 0, .int .u64 0, .int .u64 0, .slice none 0 0, .int .u64 0, .int .u64 0, .int .u64 0, .slice none 0 0, .slice none 0 0] 31)
  obtain ⟨g0, hg0⟩ : ∃ g0, w.heap.size = g0 := ⟨_, rfl⟩
  have HG0 : Hid (w.heap.size ≤ g0) := Lib.hid (by omega)
  have HB0 : Hid (g0 ≤ w.heap.size) := Lib.hid (by omega)
  rw [hg0] at k0 ⊢
  clear hg0
  generalize w.alloc (.cells #[.int .i64 0, .int .u64 0, .bool false, .int .u64 0, .int .u64 0, .int .u64 0, .int .u64 0, .slice none 0 0, .int .u64 0, .int .u64 0, .int .u64 0, .slice none 0 0, .slice none 0 0] 31) = W at k0 hB ⊢
  have hl0 := k0.lt
  go_upto_region 3 with (go_big_may; first | (refine wpList_alloc_z (by rfl) 31 (by rfl) _ rfl #[.int .i64 0, .int .u64 0, .bool false, .int .u64 0, .int .u64 0, .int .u64 0, .int .u64 0, .slice none 0 0, .int .u64 0, .int .u64 0, .int .u64 0, .slice none 0 0, .slice none 0 0] (fun w => by kernel_rfl) ?_) | (refine wpList_store_new (by rfl) 31 _ _ (by rfl) W #[.int .i64 0, .int .u64 0, .bool false, .int .u64 0, .int .u64 0, .int .u64 0, .int .u64 0, .slice none 0 0, .int .u64 0, .int .u64 0, .int .u64 0, .slice none 0 0, .slice none 0 0] #[.int .i64 2, .int .u64 t, .bool false, .int .u64 0, .int .u64 0, .int .u64 0, .int .u64 0, .slice none 0 0, .int .u64 0, .int .u64 0, .int .u64 0, .slice none 0 0, .slice none 0 0] rfl (by rfl) (by rfl) (by kernel_rfl) rfl (by kernel_rfl) ?_))
  have k1 := Blk.new W 31 #[.int .i64 2, .int .u64 t, .bool false, .int .u64 0, .int .u64 0, .int .u64 0, .int .u64 0, .slice none 0 0, .int .u64 0, .int .u64 0, .int .u64 0, .slice none 0 0, .slice none 0 0]
  have HGW : w.heap.size ≤ W.heap.size := hB.size
  replace k0 := k0.alloc (.cells #[.int .i64 2, .int .u64 t, .bool false, .int .u64 0, .int .u64 0, .int .u64 0, .int .u64 0, .slice none 0 0, .int .u64 0, .int .u64 0, .int .u64 0, .slice none 0 0, .slice none 0 0] 31)
  replace hB := bal hB (.cells #[.int .i64 2, .int .u64 t, .bool false, .int .u64 0, .int .u64 0, .int .u64 0, .int .u64 0, .slice none 0 0, .int .u64 0, .int .u64 0, .int .u64 0, .slice none 0 0, .slice none 0 0] 31)
  obtain ⟨g1, hg1⟩ : ∃ g1, W.heap.size = g1 := ⟨_, rfl⟩
  have HG1 : Hid (w.heap.size ≤ g1) := Lib.hid (by omega)
  have NE : Hid (¬ g0 = g1) := Lib.hid (by omega)
  have HZ : Hid (g1 + 1 ≤ (W.alloc (.cells #[.int .i64 2, .int .u64 t, .bool false, .int .u64 0, .int .u64 0, .int .u64 0, .int .u64 0, .slice none 0 0, .int .u64 0, .int .u64 0, .int .u64 0, .slice none 0 0, .slice none 0 0] 31)).heap.size) := Lib.hid (by simp; omega)
  have HL : Hid (g0 < g1 + 1) := Lib.hid (by omega)
  rw [hg1] at k1 ⊢
  clear hg1 hl0 HGW
  generalize W.alloc (.cells #[.int .i64 2, .int .u64 t, .bool false, .int .u64 0, .int .u64 0, .int .u64 0, .int .u64 0, .slice none 0 0, .int .u64 0, .int .u64 0, .int .u64 0, .slice none 0 0, .slice none 0 0] 31) = W1 at k0 k1 hB HZ ⊢
  by_cases hp : t = 0
  · subst hp
    obtain ⟨x0, x1, x2, x3, x4, x5, x6, x7, x8, x9, x10, x11, x12⟩ := k1.c13
    go_upto_region 7 with fail
    clear x0 x1 x2 x3 x4 x5 x6 x7 x8 x9 x10 x11 x12
    go_wp2_with (first | (refine wpList_load_row (by rfl) 31 _ (by rfl) g1 (by rfl) 31 #[.int .i64 2, .int .u64 0, .bool false, .int .u64 0, .int .u64 0, .int .u64 0, .int .u64 0, .slice none 0 0, .int .u64 0, .int .u64 0, .int .u64 0, .slice none 0 0, .slice none 0 0] (0, 0) _ k1 Try.underlying31 (by rfl) (by kernel_rfl) ?_) | (refine wpList_store_mid (by rfl) 31 _ _ (by rfl) g0 0 #[.int .i64 2, .int .u64 0, .bool false, .int .u64 0, .int .u64 0, .int .u64 0, .int .u64 0, .slice none 0 0, .int .u64 0, .int .u64 0, .int .u64 0, .slice none 0 0, .slice none 0 0] (by rfl) (by rfl) (by exact Blk.there k0 0 _ (Nat.le_refl 13)) (by kernel_rfl) (by kernel_rfl) ?_))
    refine bodyPost_ret (results_cell_row rfl _ _ g0 31 #[.int .i64 2, .int .u64 0, .bool false, .int .u64 0, .int .u64 0, .int .u64 0, .int .u64 0, .slice none 0 0, .int .u64 0, .int .u64 0, .int .u64 0, .slice none 0 0, .slice none 0 0] (0, 0) _ rfl (k0.setAll rfl) Try.underlying31 (by rfl) (by kernel_rfl)) rfl ?_
    exact ⟨_, _, madeP_zero, rfl, zPr_at' _ _ 2 0 false 0, below_setCells HG0.out _ 0 hB⟩
  · have hp0 : 0 < t := by omega
    have HSW := Lib.hid (HS.out.below hB)
    obtain ⟨q, hq⟩ : ∃ q, m.tdiv 6 = q := ⟨_, rfl⟩
    have hq0 : 0 ≤ q ∧ q ≤ 262144 := by rw [← hq, Int.tdiv_eq_ediv_of_nonneg hm0]; omega
    obtain ⟨bb, hbb⟩ : ∃ y, q.tmod 2 = y := ⟨_, rfl⟩
    have hbb0 : 0 ≤ bb ∧ bb < 2 := by rw [← hbb, Int.tmod_eq_emod_of_nonneg hq0.1]; omega
    obtain ⟨q2, hq2⟩ : ∃ q, m.tdiv 12 = q := ⟨_, rfl⟩
    have hq20 : 0 ≤ q2 ∧ q2 ≤ 262144 := by rw [← hq2, Int.tdiv_eq_ediv_of_nonneg hm0]; omega
    obtain ⟨od, hod⟩ : ∃ y, q2.tmod 500 = y := ⟨_, rfl⟩
    have hod0 : 0 ≤ od ∧ od ≤ 499 := by rw [← hod, Int.tmod_eq_emod_of_nonneg hq20.1]; omega
    obtain ⟨su, hsu⟩ : ∃ b, (bb == 0) = b := ⟨_, rfl⟩
    obtain ⟨x0, x1, x2, x3, x4, x5, x6, x7, x8, x9, x10, x11, x12⟩ := k1.c13
    have hl1 := k1.lt
    go_wp2_with fail
    refine (Ledger_any xs _ _ HSW.out).mono ?_
    rintro e W2 ⟨s, As, cs, hI, rfl, hown, hb⟩
    have hs : SlsB (g1 + 1) W2 (.slice As s.sl.length cs) s.sl := RowB.low (RowB.own hown (Nat.le_refl _)) HZ.out
    have HI := Lib.hid hI
    have HZ2 : Hid (g1 + 1 ≤ W2.heap.size) := Lib.hid (Nat.le_trans HZ.out hb.size)
    have HSW2 := Lib.hid (HSW.out.below hb)
    replace k0 := k0.below hb
    replace k1 := k1.below hb
    replace hB := bnext hB hb
    clear hown hb HZ HSW hI x0 x1 x2 x3 x4 x5 x6 x7 x8 x9 x10 x11 x12 hl1
    obtain ⟨x0, x1, x2, x3, x4, x5, x6, x7, x8, x9, x10, x11, x12⟩ := k1.c13
    have hl1 := k1.lt
    go_wp2_with fail
    refine (Receiver_any xs _ _ HSW2.out).mono ?_
    rintro e W3 ⟨z, At, ct, Ak, ck, hz, rfl, hr, hk, hb⟩
    replace hr := RowB.low hr HZ2.out
    replace hk := RowB.low hk HZ2.out
    replace hs := hs.below hb
    have HZI := Lib.hid hz
    replace k0 := k0.below hb
    replace k1 := k1.below hb
    replace hB := bnext hB hb
    clear hb HZ2 HSW2 hz x0 x1 x2 x3 x4 x5 x6 x7 x8 x9 x10 x11 x12 hl1
    obtain ⟨x0, x1, x2, x3, x4, x5, x6, x7, x8, x9, x10, x11, x12⟩ := k1.c13
    obtain ⟨f0, f1, f2, f3, f4, f5, f6, f7, f8, f9, f10, f11, f12⟩ := k1.f13
    have hl1 := k1.lt
    have ka := k1.set 2 (.bool su)
    have kb : Blk (((W3.setCell ⟨g1, 2, none⟩ (.bool su)).setCells g1 4 (Array.toList #[.int .u64 s.g, .int .u64 s.n, .int .u64 s.r, .slice As s.sl.length cs]))) g1 31 #[.int .i64 2, .int .u64 t, .bool su, .int .u64 0, .int .u64 s.g, .int .u64 s.n, .int .u64 s.r, .slice As s.sl.length cs, .int .u64 0, .int .u64 0, .int .u64 0, .slice none 0 0, .slice none 0 0] := (((ka.set 4 (.int .u64 s.g)).set 5 (.int .u64 s.n)).set 6 (.int .u64 s.r)).set 7 (.slice As s.sl.length cs)
    go_upto_region 5 with (go_big_may; first | (refine wpList_store_mid (by rfl) 25 _ _ (by rfl) g1 4 #[.int .u64 s.g, .int .u64 s.n, .int .u64 s.r, .slice As s.sl.length cs] (by rfl) (by rfl) (by exact Blk.there ka 4 _ (by decide)) (by kernel_rfl) (by kernel_rfl) ?_) | (refine wpList_store_mid (by rfl) 29 _ _ (by rfl) g1 8 #[.int .u64 z.g, .int .u64 z.r, .int .u64 z.fl, .slice At z.tk.length ct, .slice Ak z.kp.length ck] (by rfl) (by rfl) (by exact Blk.there kb 8 _ (by decide)) (by kernel_rfl) (by kernel_rfl) ?_))
    clear x0 x1 x2 x3 x4 x5 x6 x7 x8 x9 x10 x11 x12 f0 f1 f2 f3 f4 f5 f6 f7 f8 f9 f10 f11 f12 ka kb
    replace k1 : Blk ((W3.setCell ⟨g1, 2, none⟩ (.bool su))) g1 31 #[.int .i64 2, .int .u64 t, .bool su, .int .u64 0, .int .u64 0, .int .u64 0, .int .u64 0, .slice none 0 0, .int .u64 0, .int .u64 0, .int .u64 0, .slice none 0 0, .slice none 0 0] := k1.set 2 (.bool su)
    replace k1 : Blk (((W3.setCell ⟨g1, 2, none⟩ (.bool su)).setCell ⟨g1, 4, none⟩ (.int .u64 s.g))) g1 31 #[.int .i64 2, .int .u64 t, .bool su, .int .u64 0, .int .u64 s.g, .int .u64 0, .int .u64 0, .slice none 0 0, .int .u64 0, .int .u64 0, .int .u64 0, .slice none 0 0, .slice none 0 0] := k1.set 4 (.int .u64 s.g)
    replace k1 : Blk ((((W3.setCell ⟨g1, 2, none⟩ (.bool su)).setCell ⟨g1, 4, none⟩ (.int .u64 s.g)).setCell ⟨g1, 5, none⟩ (.int .u64 s.n))) g1 31 #[.int .i64 2, .int .u64 t, .bool su, .int .u64 0, .int .u64 s.g, .int .u64 s.n, .int .u64 0, .slice none 0 0, .int .u64 0, .int .u64 0, .int .u64 0, .slice none 0 0, .slice none 0 0] := k1.set 5 (.int .u64 s.n)
    replace k1 : Blk (((((W3.setCell ⟨g1, 2, none⟩ (.bool su)).setCell ⟨g1, 4, none⟩ (.int .u64 s.g)).setCell ⟨g1, 5, none⟩ (.int .u64 s.n)).setCell ⟨g1, 6, none⟩ (.int .u64 s.r))) g1 31 #[.int .i64 2, .int .u64 t, .bool su, .int .u64 0, .int .u64 s.g, .int .u64 s.n, .int .u64 s.r, .slice none 0 0, .int .u64 0, .int .u64 0, .int .u64 0, .slice none 0 0, .slice none 0 0] := k1.set 6 (.int .u64 s.r)
    replace k1 : Blk ((((((W3.setCell ⟨g1, 2, none⟩ (.bool su)).setCell ⟨g1, 4, none⟩ (.int .u64 s.g)).setCell ⟨g1, 5, none⟩ (.int .u64 s.n)).setCell ⟨g1, 6, none⟩ (.int .u64 s.r)).setCell ⟨g1, 7, none⟩ (.slice As s.sl.length cs))) g1 31 #[.int .i64 2, .int .u64 t, .bool su, .int .u64 0, .int .u64 s.g, .int .u64 s.n, .int .u64 s.r, .slice As s.sl.length cs, .int .u64 0, .int .u64 0, .int .u64 0, .slice none 0 0, .slice none 0 0] := k1.set 7 (.slice As s.sl.length cs)
    replace k1 : Blk (((((((W3.setCell ⟨g1, 2, none⟩ (.bool su)).setCell ⟨g1, 4, none⟩ (.int .u64 s.g)).setCell ⟨g1, 5, none⟩ (.int .u64 s.n)).setCell ⟨g1, 6, none⟩ (.int .u64 s.r)).setCell ⟨g1, 7, none⟩ (.slice As s.sl.length cs)).setCell ⟨g1, 8, none⟩ (.int .u64 z.g))) g1 31 #[.int .i64 2, .int .u64 t, .bool su, .int .u64 0, .int .u64 s.g, .int .u64 s.n, .int .u64 s.r, .slice As s.sl.length cs, .int .u64 z.g, .int .u64 0, .int .u64 0, .slice none 0 0, .slice none 0 0] := k1.set 8 (.int .u64 z.g)
    replace k1 : Blk ((((((((W3.setCell ⟨g1, 2, none⟩ (.bool su)).setCell ⟨g1, 4, none⟩ (.int .u64 s.g)).setCell ⟨g1, 5, none⟩ (.int .u64 s.n)).setCell ⟨g1, 6, none⟩ (.int .u64 s.r)).setCell ⟨g1, 7, none⟩ (.slice As s.sl.length cs)).setCell ⟨g1, 8, none⟩ (.int .u64 z.g)).setCell ⟨g1, 9, none⟩ (.int .u64 z.r))) g1 31 #[.int .i64 2, .int .u64 t, .bool su, .int .u64 0, .int .u64 s.g, .int .u64 s.n, .int .u64 s.r, .slice As s.sl.length cs, .int .u64 z.g, .int .u64 z.r, .int .u64 0, .slice none 0 0, .slice none 0 0] := k1.set 9 (.int .u64 z.r)
    replace k1 : Blk (((((((((W3.setCell ⟨g1, 2, none⟩ (.bool su)).setCell ⟨g1, 4, none⟩ (.int .u64 s.g)).setCell ⟨g1, 5, none⟩ (.int .u64 s.n)).setCell ⟨g1, 6, none⟩ (.int .u64 s.r)).setCell ⟨g1, 7, none⟩ (.slice As s.sl.length cs)).setCell ⟨g1, 8, none⟩ (.int .u64 z.g)).setCell ⟨g1, 9, none⟩ (.int .u64 z.r)).setCell ⟨g1, 10, none⟩ (.int .u64 z.fl))) g1 31 #[.int .i64 2, .int .u64 t, .bool su, .int .u64 0, .int .u64 s.g, .int .u64 s.n, .int .u64 s.r, .slice As s.sl.length cs, .int .u64 z.g, .int .u64 z.r, .int .u64 z.fl, .slice none 0 0, .slice none 0 0] := k1.set 10 (.int .u64 z.fl)
    replace k1 : Blk ((((((((((W3.setCell ⟨g1, 2, none⟩ (.bool su)).setCell ⟨g1, 4, none⟩ (.int .u64 s.g)).setCell ⟨g1, 5, none⟩ (.int .u64 s.n)).setCell ⟨g1, 6, none⟩ (.int .u64 s.r)).setCell ⟨g1, 7, none⟩ (.slice As s.sl.length cs)).setCell ⟨g1, 8, none⟩ (.int .u64 z.g)).setCell ⟨g1, 9, none⟩ (.int .u64 z.r)).setCell ⟨g1, 10, none⟩ (.int .u64 z.fl)).setCell ⟨g1, 11, none⟩ (.slice At z.tk.length ct))) g1 31 #[.int .i64 2, .int .u64 t, .bool su, .int .u64 0, .int .u64 s.g, .int .u64 s.n, .int .u64 s.r, .slice As s.sl.length cs, .int .u64 z.g, .int .u64 z.r, .int .u64 z.fl, .slice At z.tk.length ct, .slice none 0 0] := k1.set 11 (.slice At z.tk.length ct)
    replace k1 : Blk (((((((((((W3.setCell ⟨g1, 2, none⟩ (.bool su)).setCell ⟨g1, 4, none⟩ (.int .u64 s.g)).setCell ⟨g1, 5, none⟩ (.int .u64 s.n)).setCell ⟨g1, 6, none⟩ (.int .u64 s.r)).setCell ⟨g1, 7, none⟩ (.slice As s.sl.length cs)).setCell ⟨g1, 8, none⟩ (.int .u64 z.g)).setCell ⟨g1, 9, none⟩ (.int .u64 z.r)).setCell ⟨g1, 10, none⟩ (.int .u64 z.fl)).setCell ⟨g1, 11, none⟩ (.slice At z.tk.length ct)).setCell ⟨g1, 12, none⟩ (.slice Ak z.kp.length ck))) g1 31 #[.int .i64 2, .int .u64 t, .bool su, .int .u64 0, .int .u64 s.g, .int .u64 s.n, .int .u64 s.r, .slice As s.sl.length cs, .int .u64 z.g, .int .u64 z.r, .int .u64 z.fl, .slice At z.tk.length ct, .slice Ak z.kp.length ck] := k1.set 12 (.slice Ak z.kp.length ck)
    replace k0 := ((((((((((k0.far (p := ⟨g1, 2, none⟩) NE.out (.bool su)).far (p := ⟨g1, 4, none⟩) NE.out (.int .u64 s.g)).far (p := ⟨g1, 5, none⟩) NE.out (.int .u64 s.n)).far (p := ⟨g1, 6, none⟩) NE.out (.int .u64 s.r)).far (p := ⟨g1, 7, none⟩) NE.out (.slice As s.sl.length cs)).far (p := ⟨g1, 8, none⟩) NE.out (.int .u64 z.g)).far (p := ⟨g1, 9, none⟩) NE.out (.int .u64 z.r)).far (p := ⟨g1, 10, none⟩) NE.out (.int .u64 z.fl)).far (p := ⟨g1, 11, none⟩) NE.out (.slice At z.tk.length ct)).far (p := ⟨g1, 12, none⟩) NE.out (.slice Ak z.kp.length ck))
    replace hB := ((((((((((hB.setCell (p := ⟨g1, 2, none⟩) HG1.out (.bool su)).setCell (p := ⟨g1, 4, none⟩) HG1.out (.int .u64 s.g)).setCell (p := ⟨g1, 5, none⟩) HG1.out (.int .u64 s.n)).setCell (p := ⟨g1, 6, none⟩) HG1.out (.int .u64 s.r)).setCell (p := ⟨g1, 7, none⟩) HG1.out (.slice As s.sl.length cs)).setCell (p := ⟨g1, 8, none⟩) HG1.out (.int .u64 z.g)).setCell (p := ⟨g1, 9, none⟩) HG1.out (.int .u64 z.r)).setCell (p := ⟨g1, 10, none⟩) HG1.out (.int .u64 z.fl)).setCell (p := ⟨g1, 11, none⟩) HG1.out (.slice At z.tk.length ct)).setCell (p := ⟨g1, 12, none⟩) HG1.out (.slice Ak z.kp.length ck))
    replace hs := ((((((((((hs.set (p := ⟨g1, 2, none⟩) (Nat.lt_succ_self g1) (.bool su)).set (p := ⟨g1, 4, none⟩) (Nat.lt_succ_self g1) (.int .u64 s.g)).set (p := ⟨g1, 5, none⟩) (Nat.lt_succ_self g1) (.int .u64 s.n)).set (p := ⟨g1, 6, none⟩) (Nat.lt_succ_self g1) (.int .u64 s.r)).set (p := ⟨g1, 7, none⟩) (Nat.lt_succ_self g1) (.slice As s.sl.length cs)).set (p := ⟨g1, 8, none⟩) (Nat.lt_succ_self g1) (.int .u64 z.g)).set (p := ⟨g1, 9, none⟩) (Nat.lt_succ_self g1) (.int .u64 z.r)).set (p := ⟨g1, 10, none⟩) (Nat.lt_succ_self g1) (.int .u64 z.fl)).set (p := ⟨g1, 11, none⟩) (Nat.lt_succ_self g1) (.slice At z.tk.length ct)).set (p := ⟨g1, 12, none⟩) (Nat.lt_succ_self g1) (.slice Ak z.kp.length ck))
    replace hr := ((((((((((hr.set (p := ⟨g1, 2, none⟩) (Nat.lt_succ_self g1) (.bool su)).set (p := ⟨g1, 4, none⟩) (Nat.lt_succ_self g1) (.int .u64 s.g)).set (p := ⟨g1, 5, none⟩) (Nat.lt_succ_self g1) (.int .u64 s.n)).set (p := ⟨g1, 6, none⟩) (Nat.lt_succ_self g1) (.int .u64 s.r)).set (p := ⟨g1, 7, none⟩) (Nat.lt_succ_self g1) (.slice As s.sl.length cs)).set (p := ⟨g1, 8, none⟩) (Nat.lt_succ_self g1) (.int .u64 z.g)).set (p := ⟨g1, 9, none⟩) (Nat.lt_succ_self g1) (.int .u64 z.r)).set (p := ⟨g1, 10, none⟩) (Nat.lt_succ_self g1) (.int .u64 z.fl)).set (p := ⟨g1, 11, none⟩) (Nat.lt_succ_self g1) (.slice At z.tk.length ct)).set (p := ⟨g1, 12, none⟩) (Nat.lt_succ_self g1) (.slice Ak z.kp.length ck))
    replace hk := ((((((((((hk.set (p := ⟨g1, 2, none⟩) (Nat.lt_succ_self g1) (.bool su)).set (p := ⟨g1, 4, none⟩) (Nat.lt_succ_self g1) (.int .u64 s.g)).set (p := ⟨g1, 5, none⟩) (Nat.lt_succ_self g1) (.int .u64 s.n)).set (p := ⟨g1, 6, none⟩) (Nat.lt_succ_self g1) (.int .u64 s.r)).set (p := ⟨g1, 7, none⟩) (Nat.lt_succ_self g1) (.slice As s.sl.length cs)).set (p := ⟨g1, 8, none⟩) (Nat.lt_succ_self g1) (.int .u64 z.g)).set (p := ⟨g1, 9, none⟩) (Nat.lt_succ_self g1) (.int .u64 z.r)).set (p := ⟨g1, 10, none⟩) (Nat.lt_succ_self g1) (.int .u64 z.fl)).set (p := ⟨g1, 11, none⟩) (Nat.lt_succ_self g1) (.slice At z.tk.length ct)).set (p := ⟨g1, 12, none⟩) (Nat.lt_succ_self g1) (.slice Ak z.kp.length ck))
    generalize ((((((((((W3.setCell ⟨g1, 2, none⟩ (.bool su)).setCell ⟨g1, 4, none⟩ (.int .u64 s.g)).setCell ⟨g1, 5, none⟩ (.int .u64 s.n)).setCell ⟨g1, 6, none⟩ (.int .u64 s.r)).setCell ⟨g1, 7, none⟩ (.slice As s.sl.length cs)).setCell ⟨g1, 8, none⟩ (.int .u64 z.g)).setCell ⟨g1, 9, none⟩ (.int .u64 z.r)).setCell ⟨g1, 10, none⟩ (.int .u64 z.fl)).setCell ⟨g1, 11, none⟩ (.slice At z.tk.length ct)).setCell ⟨g1, 12, none⟩ (.slice Ak z.kp.length ck)) = W4 at k0 k1 hB hs hr hk ⊢
    obtain ⟨x0, x1, x2, x3, x4, x5, x6, x7, x8, x9, x10, x11, x12⟩ := k1.c13
    obtain ⟨f0, f1, f2, f3, f4, f5, f6, f7, f8, f9, f10, f11, f12⟩ := k1.f13
    have hl4 := k1.lt
    cases su with
    | true =>
      go_upto_region 7 with fail
      clear x0 x1 x2 x3 x4 x5 x6 x7 x8 x9 x10 x11 x12 f0 f1 f2 f3 f4 f5 f6 f7 f8 f9 f10 f11 f12
      go_wp2_with (first | (refine wpList_load_row (by rfl) 31 _ (by rfl) g1 (by rfl) 31 #[.int .i64 2, .int .u64 t, .bool true, .int .u64 0, .int .u64 s.g, .int .u64 s.n, .int .u64 s.r, .slice As s.sl.length cs, .int .u64 z.g, .int .u64 z.r, .int .u64 z.fl, .slice At z.tk.length ct, .slice Ak z.kp.length ck] (0, 0) _ k1 Try.underlying31 (by rfl) (by kernel_rfl) ?_) | (refine wpList_store_mid (by rfl) 31 _ _ (by rfl) g0 0 #[.int .i64 2, .int .u64 t, .bool true, .int .u64 0, .int .u64 s.g, .int .u64 s.n, .int .u64 s.r, .slice As s.sl.length cs, .int .u64 z.g, .int .u64 z.r, .int .u64 z.fl, .slice At z.tk.length ct, .slice Ak z.kp.length ck] (by rfl) (by rfl) (by exact Blk.there k0 0 _ (Nat.le_refl 13)) (by kernel_rfl) (by kernel_rfl) ?_))
      refine bodyPost_ret (results_cell_row rfl _ _ g0 31 #[.int .i64 2, .int .u64 t, .bool true, .int .u64 0, .int .u64 s.g, .int .u64 s.n, .int .u64 s.r, .slice As s.sl.length cs, .int .u64 z.g, .int .u64 z.r, .int .u64 z.fl, .slice At z.tk.length ct, .slice Ak z.kp.length ck] (0, 0) _ rfl (k0.setAll rfl) Try.underlying31 (by rfl) (by kernel_rfl)) rfl ?_
      exact ⟨_, _, madeP_of (by omega) ht0.2 (by decide) (by decide) (fun _ => rfl) HI.out HZI.out, rfl, PrB.low (B := g1 + 1) ⟨As, cs, At, ct, Ak, ck, rfl, hs.setCells HL.out _ 0, hr.setCells HL.out _ 0, hk.setCells HL.out _ 0⟩ (Nat.le_trans HG1.out (Nat.le_succ _)), below_setCells HG0.out _ 0 hB⟩
    | false =>
      go_upto_region 7 with fail
      clear x0 x1 x2 x3 x4 x5 x6 x7 x8 x9 x10 x11 x12 f0 f1 f2 f3 f4 f5 f6 f7 f8 f9 f10 f11 f12
      replace k1 : Blk ((W4.setCell ⟨g1, 3, none⟩ (.int .u64 od))) g1 31 #[.int .i64 2, .int .u64 t, .bool false, .int .u64 od, .int .u64 s.g, .int .u64 s.n, .int .u64 s.r, .slice As s.sl.length cs, .int .u64 z.g, .int .u64 z.r, .int .u64 z.fl, .slice At z.tk.length ct, .slice Ak z.kp.length ck] := k1.set 3 (.int .u64 od)
      replace k0 := (k0.far (p := ⟨g1, 3, none⟩) NE.out (.int .u64 od))
      replace hB := (hB.setCell (p := ⟨g1, 3, none⟩) HG1.out (.int .u64 od))
      replace hs := (hs.set (p := ⟨g1, 3, none⟩) (Nat.lt_succ_self g1) (.int .u64 od))
      replace hr := (hr.set (p := ⟨g1, 3, none⟩) (Nat.lt_succ_self g1) (.int .u64 od))
      replace hk := (hk.set (p := ⟨g1, 3, none⟩) (Nat.lt_succ_self g1) (.int .u64 od))
      generalize (W4.setCell ⟨g1, 3, none⟩ (.int .u64 od)) = W5 at k0 k1 hB hs hr hk ⊢
      go_wp2_with (first | (refine wpList_load_row (by rfl) 31 _ (by rfl) g1 (by rfl) 31 #[.int .i64 2, .int .u64 t, .bool false, .int .u64 od, .int .u64 s.g, .int .u64 s.n, .int .u64 s.r, .slice As s.sl.length cs, .int .u64 z.g, .int .u64 z.r, .int .u64 z.fl, .slice At z.tk.length ct, .slice Ak z.kp.length ck] (0, 0) _ k1 Try.underlying31 (by rfl) (by kernel_rfl) ?_) | (refine wpList_store_mid (by rfl) 31 _ _ (by rfl) g0 0 #[.int .i64 2, .int .u64 t, .bool false, .int .u64 od, .int .u64 s.g, .int .u64 s.n, .int .u64 s.r, .slice As s.sl.length cs, .int .u64 z.g, .int .u64 z.r, .int .u64 z.fl, .slice At z.tk.length ct, .slice Ak z.kp.length ck] (by rfl) (by rfl) (by exact Blk.there k0 0 _ (Nat.le_refl 13)) (by kernel_rfl) (by kernel_rfl) ?_))
      refine bodyPost_ret (results_cell_row rfl _ _ g0 31 #[.int .i64 2, .int .u64 t, .bool false, .int .u64 od, .int .u64 s.g, .int .u64 s.n, .int .u64 s.r, .slice As s.sl.length cs, .int .u64 z.g, .int .u64 z.r, .int .u64 z.fl, .slice At z.tk.length ct, .slice Ak z.kp.length ck] (0, 0) _ rfl (k0.setAll rfl) Try.underlying31 (by rfl) (by kernel_rfl)) rfl ?_
      exact ⟨_, _, madeP_of (by omega) ht0.2 hod0.1 hod0.2 (fun h => by cases h) HI.out HZI.out, rfl, PrB.low (B := g1 + 1) ⟨As, cs, At, ct, Ak, ck, rfl, hs.setCells HL.out _ 0, hr.setCells HL.out _ 0, hk.setCells HL.out _ 0⟩ (Nat.le_trans HG1.out (Nat.le_succ _)), below_setCells HG0.out _ 0 hB⟩
end Go.Proofs.Ytfgkkflbpfocjaa

