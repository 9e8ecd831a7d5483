/- Contracts: ledgers and peers copied. Contracts: a receiver's room, whether a number lies in ranges, sets checked and sized. Contract: the check of a receiver's ledger. Contracts: copies, sets, an opened ledger, what is reserved. Contracts: a receiver's ledger opened, what is reserved (the program). Contracts: the state of a range (the program). -/
import Derived.Test.YtfgkkflbpfocjaaZ1
import Derived.Deep.DeepCutAuto
import Derived.Deep.RegionHeld3
namespace Go.Proofs.Ytfgkkflbpfocjaa
open Go.RowKit
set_option linter.unusedVariables false
set_option linter.unusedSimpArgs false
theorem sl5 (x : Sl) : x.cells.length = 5 := rfl
theorem sl_one : ∀ x : Sl, ∀ u ∈ x.cells, u.oneCell' = true := by intro x u hu; simp [Sl.cells] at hu; rcases hu with rfl | rfl | rfl | rfl | rfl <;> rfl
def Rg.cells (x : Rg) : List Value := [.int .u64 x.f, .int .u64 x.t]
theorem rg2 (x : Rg) : x.cells.length = 2 := rfl
theorem rg_one : ∀ x : Rg, ∀ u ∈ x.cells, u.oneCell' = true := by intro x u hu; simp [Rg.cells] at hu; rcases hu with rfl | rfl <;> rfl
theorem infoRg : (Try.prog.info? 74).map (fun i => (i.zero, i.size, i.bytes)) = some (some (.agg #[.int .u64 0, .int .u64 0]), 2, 16) := by kernel_rfl
def kc (x : Int) : List Value := [.int .u64 x]
theorem kc1 (x : Int) : (kc x).length = 1 := rfl
theorem kc_one : ∀ x : Int, ∀ u ∈ kc x, u.oneCell' = true := by intro x u hu; simp [kc] at hu; subst hu; rfl
theorem infoU : (Try.prog.info? 22).map (fun i => (i.zero, i.size, i.bytes)) = some (some (.int .u64 0), 1, 8) := by kernel_rfl
/-- slots, ranges, offsets in slices -/
def SlsAt (w : World) (v : Value) (l : List Sl) : Prop := SlAt w 5 v l.length (fl Sl.cells l)
def RgsAt (w : World) (v : Value) (l : List Rg) : Prop := SlAt w 2 v l.length (fl Rg.cells l)
def KpsAt (w : World) (v : Value) (l : List Int) : Prop := SlAt w 1 v l.length (fl kc l)
section
variable {w w' : World} {v : Value}
theorem SlsAt.below {l : List Sl} (h : SlsAt w v l) {w0 : World} (hb : Below w.heap.size w w0) : SlsAt w0 v l := SlAt.below h hb
theorem RgsAt.below {l : List Rg} (h : RgsAt w v l) {w0 : World} (hb : Below w.heap.size w w0) : RgsAt w0 v l := SlAt.below h hb
theorem KpsAt.below {l : List Int} (h : KpsAt w v l) {w0 : World} (hb : Below w.heap.size w w0) : KpsAt w0 v l := SlAt.below h hb
theorem SlsAt.form {l : List Sl} (h : SlsAt w v l) : ∃ A c, v = .slice A l.length c := by obtain ⟨A, c, e, _⟩ := h; exact ⟨A, c, e⟩
theorem RgsAt.form {l : List Rg} (h : RgsAt w v l) : ∃ A c, v = .slice A l.length c := by obtain ⟨A, c, e, _⟩ := h; exact ⟨A, c, e⟩
theorem KpsAt.form {l : List Int} (h : KpsAt w v l) : ∃ A c, v = .slice A l.length c := by obtain ⟨A, c, e, _⟩ := h; exact ⟨A, c, e⟩
end
/-- a slice whose block, if it reads of one, is none below B -/
def RowB (B : Nat) (w : World) (k : Nat) (v : Value) (n : Nat) (xs : List Value) : Prop := ∃ A c, v = .slice A n c ∧ n ≤ c ∧ c ≤ maxLen ∧ xs.length = n * k ∧ (0 < n → ∃ b o, A = some ⟨b, o, none⟩ ∧ B ≤ b ∧ b < w.heap.size ∧ ∀ j u, xs[j]? = some u → w.cell? ⟨b, o + j, none⟩ = some u)
section
variable {B : Nat} {w w' : World} {k : Nat} {v : Value} {n : Nat} {xs : List Value}
theorem RowB.at (h : RowB B w k v n xs) : SlAt w k v n xs := by
  obtain ⟨A, c, e, h1, h2, h3, h4⟩ := h
  exact ⟨A, c, e, h1, h2, h3, fun hn => by obtain ⟨b, o, e, _, h5, h6⟩ := h4 hn; exact ⟨b, o, e, h5, h6⟩⟩
theorem RowB.own {base : Nat} {e : TypeId} (h : w.ownsRow base e k v n xs) (hb : B ≤ base) : RowB B w k v n xs := by
  obtain ⟨A, c, e', h1, h2, h3⟩ := SlAt.own h
  refine ⟨A, c, e', h1, h2, h3.1, fun hn => ?_⟩
  obtain ⟨b, o, e2, h5, h6⟩ := h3.2 hn
  subst e' e2
  rcases h.2 with ⟨e3, e4⟩ | ⟨g, cap, cur, e3, hg, _⟩
  · omega
  · cases e3
    exact ⟨_, _, rfl, by omega, h5, h6⟩
theorem RowB.low (h : RowB B w k v n xs) {B' : Nat} (hb : B' ≤ B) : RowB B' w k v n xs := by
  obtain ⟨A, c, e, h1, h2, h3, h4⟩ := h
  exact ⟨A, c, e, h1, h2, h3, fun hn => by obtain ⟨b, o, e, h, h5, h6⟩ := h4 hn; exact ⟨b, o, e, by omega, h5, h6⟩⟩
theorem RowB.set (h : RowB B w k v n xs) {p : Addr} (hp : p.block < B) (u : Value) : RowB B (w.setCell p u) k v n xs := by
  obtain ⟨A, c, e, h1, h2, h3, h4⟩ := h
  refine ⟨A, c, e, h1, h2, h3, fun hn => ?_⟩
  obtain ⟨b, o, e, h, h5, h6⟩ := h4 hn
  refine ⟨b, o, e, h, by rw [World.size_setCell]; exact h5, fun j x hj => ?_⟩
  rw [World.cell?_setCell_other _ _ _ _ (fun e => by rw [e] at hp; exact absurd hp (by show ¬ b < B; omega))]
  exact h6 j x hj
theorem RowB.below (h : RowB B w k v n xs) {w0 : World} (hb : Below w.heap.size w w0) : RowB B w0 k v n xs := by
  obtain ⟨A, c, e, h1, h2, h3, h4⟩ := h
  refine ⟨A, c, e, h1, h2, h3, fun hn => ?_⟩
  obtain ⟨b, o, e, h, h5, h6⟩ := h4 hn
  exact ⟨b, o, e, h, Nat.lt_of_lt_of_le h5 hb.size, fun j x hj => ((bcell hb).1 b _ h5).trans (h6 j x hj)⟩
theorem RowB.alloc (h : RowB B w k v n xs) (o : Obj) : RowB B (w.alloc o) k v n xs := h.below ((Below.refl _ _).alloc (Nat.le_refl _) o)
theorem grow1_cell {o : Obj} {w0 : World} (hg : (w.alloc o).grownBy w0 (some w.heap.size)) {b : Nat} (h : b < w.heap.size) : w0.heap[b]? = w.heap[b]? := by
  rw [hg.block b (by rw [World.size_alloc]; omega) (fun e => by injection e; omega)]
  exact Below.heap_alloc w o b h
theorem RowB.grow1 (h : RowB B w k v n xs) {o : Obj} {w0 : World} (hg : (w.alloc o).grownBy w0 (some w.heap.size)) : RowB B w0 k v n xs := by
  obtain ⟨A, c, e, h1, h2, h3, h4⟩ := h
  refine ⟨A, c, e, h1, h2, h3, fun hn => ?_⟩
  obtain ⟨b, o', e, h, h5, h6⟩ := h4 hn
  refine ⟨b, o', e, h, by have := hg.size; rw [World.size_alloc] at this; omega, fun j x hj => ?_⟩
  have := h6 j x hj
  unfold World.cell? at this ⊢
  rw [grow1_cell hg h5]
  exact this
end
theorem Blk.grow1 {w w0 : World} {g : Nat} {t : TypeId} {cs : Array Value} (h : Blk w g t cs) {o : Obj} (hg : (w.alloc o).grownBy w0 (some w.heap.size)) : Blk w0 g t cs := (grow1_cell hg h.lt).trans h
abbrev SlsB (B : Nat) (w : World) (v : Value) (l : List Sl) : Prop := RowB B w 5 v l.length (fl Sl.cells l)
abbrev RgsB (B : Nat) (w : World) (v : Value) (l : List Rg) : Prop := RowB B w 2 v l.length (fl Rg.cells l)
abbrev KpsB (B : Nat) (w : World) (v : Value) (l : List Int) : Prop := RowB B w 1 v l.length (fl kc l)
/-- a ledger of a receiver, a peer -/
def RecAt (w : World) (V : Value) (z : Rec) : Prop := ∃ vt vk, V = .agg #[.int .u64 z.g, .int .u64 z.r, .int .u64 z.fl, vt, vk] ∧ RgsAt w vt z.tk ∧ KpsAt w vk z.kp
def PrAt (w : World) (V : Value) (p : Pr) : Prop := ∃ vs vt vk, V = .agg #[.int .i64 p.node, .int .u64 p.theirs, .bool p.sure, .int .u64 p.old, .int .u64 p.s.g, .int .u64 p.s.n, .int .u64 p.s.r, vs, .int .u64 p.r.g, .int .u64 p.r.r, .int .u64 p.r.fl, vt, vk] ∧ SlsAt w vs p.s.sl ∧ RgsAt w vt p.r.tk ∧ KpsAt w vk p.r.kp
theorem RecAt.below {w w' : World} {V : Value} {z : Rec} (h : RecAt w V z) (hb : Below w.heap.size w w') : RecAt w' V z := by
  obtain ⟨vt, vk, e, h1, h2⟩ := h
  exact ⟨vt, vk, e, h1.below hb, h2.below hb⟩
theorem PrAt.below {w w' : World} {V : Value} {p : Pr} (h : PrAt w V p) (hb : Below w.heap.size w w') : PrAt w' V p := by
  obtain ⟨vs, vt, vk, e, h0, h1, h2⟩ := h
  exact ⟨vs, vt, vk, e, h0.below hb, h1.below hb, h2.below hb⟩
theorem LedAt.below {w w' : World} {V : Value} {s : Led} (h : LedAt w V s) (hb : Below w.heap.size w w') : LedAt w' V s := by
  obtain ⟨v, e, h1⟩ := h
  exact ⟨v, e, SlAt.below h1 hb⟩
/-- what gives a ledger or a peer back -/
def RetLed (s : Led) (w : World) (e : Ending) (w' : World) : Prop := ∃ V, e = .returned V ∧ LedAt w' V s ∧ Below w.heap.size w w'
def RetRec (z : Rec) (w : World) (e : Ending) (w' : World) : Prop := ∃ V, e = .returned V ∧ RecAt w' V z ∧ Below w.heap.size w w'
def RetPr (p : Pr) (w : World) (e : Ending) (w' : World) : Prop := ∃ V, e = .returned V ∧ PrAt w' V p ∧ Below w.heap.size w w'
def RetOwnS (g n r : Int) (S : List Sl) (w : World) (e : Ending) (w' : World) : Prop := ∃ vs, e = .returned (.agg #[.int .u64 g, .int .u64 n, .int .u64 r, vs]) ∧ SlsB (w.heap.size + 2) w' vs S ∧ Below w.heap.size w w'
def RetOwnR (a b f : Int) (T : List Rg) (K : List Int) (w : World) (e : Ending) (w' : World) : Prop := ∃ vt vk, e = .returned (.agg #[.int .u64 a, .int .u64 b, .int .u64 f, vt, vk]) ∧ RgsB (w.heap.size + 2) w' vt T ∧ KpsB (w.heap.size + 2) w' vk K ∧ Below w.heap.size w w'
def RetOwnP (node th old : Int) (su : Bool) (g n r : Int) (S : List Sl) (a b f : Int) (T : List Rg) (K : List Int) (w : World) (e : Ending) (w' : World) : Prop := ∃ vs vt vk, e = .returned (.agg #[.int .i64 node, .int .u64 th, .bool su, .int .u64 old, .int .u64 g, .int .u64 n, .int .u64 r, vs, .int .u64 a, .int .u64 b, .int .u64 f, vt, vk]) ∧ SlsB (w.heap.size + 2) w' vs S ∧ RgsB (w.heap.size + 2) w' vt T ∧ KpsB (w.heap.size + 2) w' vk K ∧ Below w.heap.size w w'
/-- empty ones of one's own -/
theorem own0 (w : World) (e : TypeId) (size : Nat) : (w.alloc (.cells #[] e)).ownsRow w.heap.size e size (.slice (some ⟨w.heap.size, 0, none⟩) 0 0) 0 [] := World.ownsRow_made (base := w.heap.size) (e := e) (size := size) w #[] 0 (Nat.le_refl _) (by unfold maxLen; omega) (by simp)
section
variable {w : World} {g : Nat} {t : TypeId} {c0 c1 c2 c3 c4 c5 c6 c7 c8 c9 c10 c11 c12 : Value}
theorem Blk.c13 (h : Blk w g t #[c0, c1, c2, c3, c4, c5, c6, c7, c8, c9, c10, c11, c12]) : w.cell? ⟨g, 0, none⟩ = some c0 ∧ w.cell? ⟨g, 1, none⟩ = some c1 ∧ w.cell? ⟨g, 2, none⟩ = some c2 ∧ w.cell? ⟨g, 3, none⟩ = some c3 ∧ w.cell? ⟨g, 4, none⟩ = some c4 ∧ w.cell? ⟨g, 5, none⟩ = some c5 ∧ w.cell? ⟨g, 6, none⟩ = some c6 ∧ w.cell? ⟨g, 7, none⟩ = some c7 ∧ w.cell? ⟨g, 8, none⟩ = some c8 ∧ w.cell? ⟨g, 9, none⟩ = some c9 ∧ w.cell? ⟨g, 10, none⟩ = some c10 ∧ w.cell? ⟨g, 11, none⟩ = some c11 ∧ w.cell? ⟨g, 12, none⟩ = some c12 := ⟨h.cell 0, h.cell 1, h.cell 2, h.cell 3, h.cell 4, h.cell 5, h.cell 6, h.cell 7, h.cell 8, h.cell 9, h.cell 10, h.cell 11, h.cell 12⟩
theorem Blk.f13 (h : Blk w g t #[c0, c1, c2, c3, c4, c5, c6, c7, c8, c9, c10, c11, c12]) : w.frozen? ⟨g, 0, none⟩ = false ∧ w.frozen? ⟨g, 1, none⟩ = false ∧ w.frozen? ⟨g, 2, none⟩ = false ∧ w.frozen? ⟨g, 3, none⟩ = false ∧ w.frozen? ⟨g, 4, none⟩ = false ∧ w.frozen? ⟨g, 5, none⟩ = false ∧ w.frozen? ⟨g, 6, none⟩ = false ∧ w.frozen? ⟨g, 7, none⟩ = false ∧ w.frozen? ⟨g, 8, none⟩ = false ∧ w.frozen? ⟨g, 9, none⟩ = false ∧ w.frozen? ⟨g, 10, none⟩ = false ∧ w.frozen? ⟨g, 11, none⟩ = false ∧ w.frozen? ⟨g, 12, none⟩ = false := ⟨h.frozen 0, h.frozen 1, h.frozen 2, h.frozen 3, h.frozen 4, h.frozen 5, h.frozen 6, h.frozen 7, h.frozen 8, h.frozen 9, h.frozen 10, h.frozen 11, h.frozen 12⟩
end


set_option maxRecDepth 100000 in
set_option maxHeartbeats 4000000 in
theorem OwnSend_any (g n r : Int) (S : List Sl) (vs : Value) (w : World) (hs : SlsAt w vs S) (hsl : S.length ≤ 100000) : Calls Try.prog 51 #[.agg #[.int .u64 g, .int .u64 n, .int .u64 r, vs]] w (RetOwnS g n r S w) := by
  obtain ⟨As, cs, rfl⟩ := hs.form
  have Hs := Lib.hid hs
  clear hs
  go_enter Try.func51, Try.ntmps51
  go_upto_region 1 with fail
  have k0 : Blk ((w.alloc (.cells #[.int .u64 g, .int .u64 n, .int .u64 r, .slice As S.length cs] 25)).alloc (.cells #[.int .u64 0, .int .u64 0, .int .u64 0, .slice none 0 0] 25)) w.heap.size 25 #[.int .u64 g, .int .u64 n, .int .u64 r, .slice As S.length cs] := (Blk.new _ _ _).alloc _
  have k1 : Blk ((w.alloc (.cells #[.int .u64 g, .int .u64 n, .int .u64 r, .slice As S.length cs] 25)).alloc (.cells #[.int .u64 0, .int .u64 0, .int .u64 0, .slice none 0 0] 25)) (w.heap.size + 1) 25 #[.int .u64 0, .int .u64 0, .int .u64 0, .slice none 0 0] := Blk.new1 _ _ _ _
  have hB : Below w.heap.size w ((w.alloc (.cells #[.int .u64 g, .int .u64 n, .int .u64 r, .slice As S.length cs] 25)).alloc (.cells #[.int .u64 0, .int .u64 0, .int .u64 0, .slice none 0 0] 25)) := bal (bal (Below.refl _ _) _) _
  generalize (w.alloc (.cells #[.int .u64 g, .int .u64 n, .int .u64 r, .slice As S.length cs] 25)).alloc (.cells #[.int .u64 0, .int .u64 0, .int .u64 0, .slice none 0 0] 25) = W0 at k0 k1 hB ⊢
  obtain ⟨x0, x1, x2, x3⟩ := k0.c4
  obtain ⟨f0, f1, f2, f3⟩ := k0.f4
  have hl0 := k0.lt
  have hl1 := k1.lt
  have Js := Lib.hid (Hs.out.below hB)
  have HO := Lib.hid (own0 W0 81 5)
  go_wp2_with (at_builtin; refine wpList_app_all (f := Sl.cells) rfl _ _ 23 rfl W0.heap.size 81 5 40 infoSlot rfl (by decide) Try.underlying23 sl5 sl_one _ w w.heap.size [] S _ _ (by rfl) (by rfl) (SlAt.alloc Js.out _) HO.out (bal hB _) hB.size (by simp) (by simp; omega) (by unfold maxLen; simp; omega) ?_)
  intro Bs ds U hown hBu hg
  try simp only [List.length_nil, Nat.zero_add, List.nil_append] at hown
  try simp only [List.length_nil, Nat.zero_add]
  replace hg : (W0.alloc (.cells #[] 81)).grownBy U (some W0.heap.size) := hg
  have Rs : SlsB (w.heap.size + 2) U (.slice Bs S.length ds) S := RowB.own hown (by omega)
  replace k0 := k0.grow1 hg
  replace k1 := k1.grow1 hg
  have hlu := k0.lt
  clear hown hg HO hB x0 x1 x2 x3 f0 f1 f2 f3 hl0 hl1 Js
  obtain ⟨x0, x1, x2, x3⟩ := k0.c4
  obtain ⟨f0, f1, f2, f3⟩ := k0.f4
  replace k0 := k0.set 3 (.slice Bs S.length ds)
  replace k1 := k1.far (p := ⟨w.heap.size, 3, none⟩) (by show w.heap.size + 1 ≠ w.heap.size; omega) (.slice Bs S.length ds)
  have hB := bset hBu (p := ⟨w.heap.size, 3, none⟩) (Nat.le_refl _) (.slice Bs S.length ds)
  replace Rs := RowB.set Rs (p := ⟨w.heap.size, 3, none⟩) (by show w.heap.size < _; omega) (.slice Bs S.length ds)
  replace k0 : Blk (U.setCell ⟨w.heap.size, 3, none⟩ (.slice Bs S.length ds)) w.heap.size 25 #[.int .u64 g, .int .u64 n, .int .u64 r, .slice Bs S.length ds] := k0
  go_upto_region 2 with fail
  generalize U.setCell ⟨w.heap.size, 3, none⟩ (.slice Bs S.length ds) = W1 at k0 k1 hB Rs ⊢
  clear hBu hlu x0 x1 x2 x3 f0 f1 f2 f3
  obtain ⟨x0, x1, x2, x3⟩ := k0.c4
  obtain ⟨f0, f1, f2, f3⟩ := k0.f4
  obtain ⟨y0, y1, y2, y3⟩ := k1.c4
  obtain ⟨g0, g1, g2, g3⟩ := k1.f4
  have hl0 := k0.lt
  have hl1 := k1.lt
  go_wp2_with fail
  refine bodyPost_ret (v := .agg #[.int .u64 g, .int .u64 n, .int .u64 r, .slice Bs S.length ds]) (by simp [results, Try.results51, go_sem, hl1, y0, y1, y2, y3]) rfl ?_
  have hB2 := hB
  refine ⟨_, rfl, ?_, ?_⟩
  · repeat (first | with_reducible exact Rs | with_reducible refine RowB.set ?_ (by show w.heap.size + 1 < _; omega) _)
  · repeat (first | with_reducible exact hB2 | with_reducible refine bset ?_ (by show w.heap.size ≤ w.heap.size + 1; omega) _)

set_option maxRecDepth 100000 in
set_option maxHeartbeats 4000000 in
theorem rown18_any (g n r : Int) (S : List Sl) (vs : Value) (w : World) (hs : SlsAt w vs S) (hsl : S.length ≤ 100000) : Calls Try.prog 84 #[.agg #[.int .u64 g, .int .u64 n, .int .u64 r, vs]] w (RetOwnS g n r S w) := by
  obtain ⟨As, cs, rfl⟩ := hs.form
  have Hs := Lib.hid hs
  clear hs
  go_enter Try.func84, Try.ntmps84
  go_upto_region 1 with fail
  have k0 : Blk ((w.alloc (.cells #[.int .u64 g, .int .u64 n, .int .u64 r, .slice As S.length cs] 25)).alloc (.cells #[.int .u64 0, .int .u64 0, .int .u64 0, .slice none 0 0] 25)) w.heap.size 25 #[.int .u64 g, .int .u64 n, .int .u64 r, .slice As S.length cs] := (Blk.new _ _ _).alloc _
  have k1 : Blk ((w.alloc (.cells #[.int .u64 g, .int .u64 n, .int .u64 r, .slice As S.length cs] 25)).alloc (.cells #[.int .u64 0, .int .u64 0, .int .u64 0, .slice none 0 0] 25)) (w.heap.size + 1) 25 #[.int .u64 0, .int .u64 0, .int .u64 0, .slice none 0 0] := Blk.new1 _ _ _ _
  have hB : Below w.heap.size w ((w.alloc (.cells #[.int .u64 g, .int .u64 n, .int .u64 r, .slice As S.length cs] 25)).alloc (.cells #[.int .u64 0, .int .u64 0, .int .u64 0, .slice none 0 0] 25)) := bal (bal (Below.refl _ _) _) _
  generalize (w.alloc (.cells #[.int .u64 g, .int .u64 n, .int .u64 r, .slice As S.length cs] 25)).alloc (.cells #[.int .u64 0, .int .u64 0, .int .u64 0, .slice none 0 0] 25) = W0 at k0 k1 hB ⊢
  obtain ⟨x0, x1, x2, x3⟩ := k0.c4
  obtain ⟨f0, f1, f2, f3⟩ := k0.f4
  have hl0 := k0.lt
  have hl1 := k1.lt
  have Js := Lib.hid (Hs.out.below hB)
  have HO := Lib.hid (own0 W0 81 5)
  go_wp2_with (at_builtin; refine wpList_app_all (f := Sl.cells) rfl _ _ 23 rfl W0.heap.size 81 5 40 infoSlot rfl (by decide) Try.underlying23 sl5 sl_one _ w w.heap.size [] S _ _ (by rfl) (by rfl) (SlAt.alloc Js.out _) HO.out (bal hB _) hB.size (by simp) (by simp; omega) (by unfold maxLen; simp; omega) ?_)
  intro Bs ds U hown hBu hg
  try simp only [List.length_nil, Nat.zero_add, List.nil_append] at hown
  try simp only [List.length_nil, Nat.zero_add]
  replace hg : (W0.alloc (.cells #[] 81)).grownBy U (some W0.heap.size) := hg
  have Rs : SlsB (w.heap.size + 2) U (.slice Bs S.length ds) S := RowB.own hown (by omega)
  replace k0 := k0.grow1 hg
  replace k1 := k1.grow1 hg
  have hlu := k0.lt
  clear hown hg HO hB x0 x1 x2 x3 f0 f1 f2 f3 hl0 hl1 Js
  obtain ⟨x0, x1, x2, x3⟩ := k0.c4
  obtain ⟨f0, f1, f2, f3⟩ := k0.f4
  replace k0 := k0.set 3 (.slice Bs S.length ds)
  replace k1 := k1.far (p := ⟨w.heap.size, 3, none⟩) (by show w.heap.size + 1 ≠ w.heap.size; omega) (.slice Bs S.length ds)
  have hB := bset hBu (p := ⟨w.heap.size, 3, none⟩) (Nat.le_refl _) (.slice Bs S.length ds)
  replace Rs := RowB.set Rs (p := ⟨w.heap.size, 3, none⟩) (by show w.heap.size < _; omega) (.slice Bs S.length ds)
  replace k0 : Blk (U.setCell ⟨w.heap.size, 3, none⟩ (.slice Bs S.length ds)) w.heap.size 25 #[.int .u64 g, .int .u64 n, .int .u64 r, .slice Bs S.length ds] := k0
  go_upto_region 2 with fail
  generalize U.setCell ⟨w.heap.size, 3, none⟩ (.slice Bs S.length ds) = W1 at k0 k1 hB Rs ⊢
  clear hBu hlu x0 x1 x2 x3 f0 f1 f2 f3
  obtain ⟨x0, x1, x2, x3⟩ := k0.c4
  obtain ⟨f0, f1, f2, f3⟩ := k0.f4
  obtain ⟨y0, y1, y2, y3⟩ := k1.c4
  obtain ⟨g0, g1, g2, g3⟩ := k1.f4
  have hl0 := k0.lt
  have hl1 := k1.lt
  go_wp2_with fail
  refine bodyPost_ret (v := .agg #[.int .u64 g, .int .u64 n, .int .u64 r, .slice Bs S.length ds]) (by simp [results, Try.results84, go_sem, hl1, y0, y1, y2, y3]) rfl ?_
  have hB2 := hB
  refine ⟨_, rfl, ?_, ?_⟩
  · repeat (first | with_reducible exact Rs | with_reducible refine RowB.set ?_ (by show w.heap.size + 1 < _; omega) _)
  · repeat (first | with_reducible exact hB2 | with_reducible refine bset ?_ (by show w.heap.size ≤ w.heap.size + 1; omega) _)

set_option maxRecDepth 100000 in
set_option maxHeartbeats 4000000 in
theorem OwnRecv_any (a b f : Int) (T : List Rg) (K : List Int) (vt vk : Value) (w : World) (ht : RgsAt w vt T) (hk : KpsAt w vk K) (htl : T.length ≤ 100000) (hkl : K.length ≤ 100000) : Calls Try.prog 52 #[.agg #[.int .u64 a, .int .u64 b, .int .u64 f, vt, vk]] w (RetOwnR a b f T K w) := by
  obtain ⟨At, ct, rfl⟩ := ht.form
  have Ht := Lib.hid ht
  clear ht
  obtain ⟨Ak, ck, rfl⟩ := hk.form
  have Hk := Lib.hid hk
  clear hk
  go_enter Try.func52, Try.ntmps52
  go_upto_region 1 with fail
  have k0 : Blk ((w.alloc (.cells #[.int .u64 a, .int .u64 b, .int .u64 f, .slice At T.length ct, .slice Ak K.length ck] 29)).alloc (.cells #[.int .u64 0, .int .u64 0, .int .u64 0, .slice none 0 0, .slice none 0 0] 29)) w.heap.size 29 #[.int .u64 a, .int .u64 b, .int .u64 f, .slice At T.length ct, .slice Ak K.length ck] := (Blk.new _ _ _).alloc _
  have k1 : Blk ((w.alloc (.cells #[.int .u64 a, .int .u64 b, .int .u64 f, .slice At T.length ct, .slice Ak K.length ck] 29)).alloc (.cells #[.int .u64 0, .int .u64 0, .int .u64 0, .slice none 0 0, .slice none 0 0] 29)) (w.heap.size + 1) 29 #[.int .u64 0, .int .u64 0, .int .u64 0, .slice none 0 0, .slice none 0 0] := Blk.new1 _ _ _ _
  have hB : Below w.heap.size w ((w.alloc (.cells #[.int .u64 a, .int .u64 b, .int .u64 f, .slice At T.length ct, .slice Ak K.length ck] 29)).alloc (.cells #[.int .u64 0, .int .u64 0, .int .u64 0, .slice none 0 0, .slice none 0 0] 29)) := bal (bal (Below.refl _ _) _) _
  generalize (w.alloc (.cells #[.int .u64 a, .int .u64 b, .int .u64 f, .slice At T.length ct, .slice Ak K.length ck] 29)).alloc (.cells #[.int .u64 0, .int .u64 0, .int .u64 0, .slice none 0 0, .slice none 0 0] 29) = W0 at k0 k1 hB ⊢
  obtain ⟨x0, x1, x2, x3, x4⟩ := k0.c5
  obtain ⟨f0, f1, f2, f3, f4⟩ := k0.f5
  have hl0 := k0.lt
  have hl1 := k1.lt
  have Jt := Lib.hid (Ht.out.below hB)
  have HO := Lib.hid (own0 W0 74 2)
  go_wp2_with (at_builtin; refine wpList_app_all (f := Rg.cells) rfl _ _ 26 rfl W0.heap.size 74 2 16 infoRg rfl (by decide) Try.underlying26 rg2 rg_one _ w w.heap.size [] T _ _ (by rfl) (by rfl) (SlAt.alloc Jt.out _) HO.out (bal hB _) hB.size (by simp) (by simp; omega) (by unfold maxLen; simp; omega) ?_)
  intro Bt dt U hown hBu hg
  try simp only [List.length_nil, Nat.zero_add, List.nil_append] at hown
  try simp only [List.length_nil, Nat.zero_add]
  replace hg : (W0.alloc (.cells #[] 74)).grownBy U (some W0.heap.size) := hg
  have Rt : RgsB (w.heap.size + 2) U (.slice Bt T.length dt) T := RowB.own hown (by omega)
  replace k0 := k0.grow1 hg
  replace k1 := k1.grow1 hg
  have hlu := k0.lt
  clear hown hg HO hB x0 x1 x2 x3 x4 f0 f1 f2 f3 f4 hl0 hl1 Jt
  obtain ⟨x0, x1, x2, x3, x4⟩ := k0.c5
  obtain ⟨f0, f1, f2, f3, f4⟩ := k0.f5
  replace k0 := k0.set 3 (.slice Bt T.length dt)
  replace k1 := k1.far (p := ⟨w.heap.size, 3, none⟩) (by show w.heap.size + 1 ≠ w.heap.size; omega) (.slice Bt T.length dt)
  have hB := bset hBu (p := ⟨w.heap.size, 3, none⟩) (Nat.le_refl _) (.slice Bt T.length dt)
  replace Rt := RowB.set Rt (p := ⟨w.heap.size, 3, none⟩) (by show w.heap.size < _; omega) (.slice Bt T.length dt)
  replace k0 : Blk (U.setCell ⟨w.heap.size, 3, none⟩ (.slice Bt T.length dt)) w.heap.size 29 #[.int .u64 a, .int .u64 b, .int .u64 f, .slice Bt T.length dt, .slice Ak K.length ck] := k0
  go_upto_region 2 with fail
  generalize U.setCell ⟨w.heap.size, 3, none⟩ (.slice Bt T.length dt) = W1 at k0 k1 hB Rt ⊢
  clear hBu hlu x0 x1 x2 x3 x4 f0 f1 f2 f3 f4
  obtain ⟨x0, x1, x2, x3, x4⟩ := k0.c5
  obtain ⟨f0, f1, f2, f3, f4⟩ := k0.f5
  have hl0 := k0.lt
  have hl1 := k1.lt
  have Jk := Lib.hid (Hk.out.below hB)
  have HO := Lib.hid (own0 W1 22 1)
  go_wp2_with (at_builtin; refine wpList_app_all (f := kc) rfl _ _ 27 rfl W1.heap.size 22 1 8 infoU rfl (by decide) Try.underlying27 kc1 kc_one _ w w.heap.size [] K _ _ (by rfl) (by rfl) (SlAt.alloc Jk.out _) HO.out (bal hB _) hB.size (by simp) (by simp; omega) (by unfold maxLen; simp; omega) ?_)
  intro Bk dk U hown hBu hg
  try simp only [List.length_nil, Nat.zero_add, List.nil_append] at hown
  try simp only [List.length_nil, Nat.zero_add]
  replace hg : (W1.alloc (.cells #[] 22)).grownBy U (some W1.heap.size) := hg
  have Rk : KpsB (w.heap.size + 2) U (.slice Bk K.length dk) K := RowB.own hown (by omega)
  replace k0 := k0.grow1 hg
  replace k1 := k1.grow1 hg
  replace Rt := RowB.grow1 Rt hg
  have hlu := k0.lt
  clear hown hg HO hB x0 x1 x2 x3 x4 f0 f1 f2 f3 f4 hl0 hl1 Jk
  obtain ⟨x0, x1, x2, x3, x4⟩ := k0.c5
  obtain ⟨f0, f1, f2, f3, f4⟩ := k0.f5
  replace k0 := k0.set 4 (.slice Bk K.length dk)
  replace k1 := k1.far (p := ⟨w.heap.size, 4, none⟩) (by show w.heap.size + 1 ≠ w.heap.size; omega) (.slice Bk K.length dk)
  have hB := bset hBu (p := ⟨w.heap.size, 4, none⟩) (Nat.le_refl _) (.slice Bk K.length dk)
  replace Rt := RowB.set Rt (p := ⟨w.heap.size, 4, none⟩) (by show w.heap.size < _; omega) (.slice Bk K.length dk)
  replace Rk := RowB.set Rk (p := ⟨w.heap.size, 4, none⟩) (by show w.heap.size < _; omega) (.slice Bk K.length dk)
  replace k0 : Blk (U.setCell ⟨w.heap.size, 4, none⟩ (.slice Bk K.length dk)) w.heap.size 29 #[.int .u64 a, .int .u64 b, .int .u64 f, .slice Bt T.length dt, .slice Bk K.length dk] := k0
  go_upto_region 3 with fail
  generalize U.setCell ⟨w.heap.size, 4, none⟩ (.slice Bk K.length dk) = W2 at k0 k1 hB Rt Rk ⊢
  clear hBu hlu x0 x1 x2 x3 x4 f0 f1 f2 f3 f4
  obtain ⟨x0, x1, x2, x3, x4⟩ := k0.c5
  obtain ⟨f0, f1, f2, f3, f4⟩ := k0.f5
  obtain ⟨y0, y1, y2, y3, y4⟩ := k1.c5
  obtain ⟨g0, g1, g2, g3, g4⟩ := k1.f5
  have hl0 := k0.lt
  have hl1 := k1.lt
  go_wp2_with fail
  refine bodyPost_ret (v := .agg #[.int .u64 a, .int .u64 b, .int .u64 f, .slice Bt T.length dt, .slice Bk K.length dk]) (by simp [results, Try.results52, go_sem, hl1, y0, y1, y2, y3, y4]) rfl ?_
  have hB2 := hB
  refine ⟨_, _, rfl, ?_, ?_, ?_⟩
  · repeat (first | with_reducible exact Rt | with_reducible refine RowB.set ?_ (by show w.heap.size + 1 < _; omega) _)
  · repeat (first | with_reducible exact Rk | with_reducible refine RowB.set ?_ (by show w.heap.size + 1 < _; omega) _)
  · repeat (first | with_reducible exact hB2 | with_reducible refine bset ?_ (by show w.heap.size ≤ w.heap.size + 1; omega) _)

set_option maxRecDepth 100000 in
set_option maxHeartbeats 4000000 in
theorem rown19_any (a b f : Int) (T : List Rg) (K : List Int) (vt vk : Value) (w : World) (ht : RgsAt w vt T) (hk : KpsAt w vk K) (htl : T.length ≤ 100000) (hkl : K.length ≤ 100000) : Calls Try.prog 81 #[.agg #[.int .u64 a, .int .u64 b, .int .u64 f, vt, vk]] w (RetOwnR a b f T K w) := by
  obtain ⟨At, ct, rfl⟩ := ht.form
  have Ht := Lib.hid ht
  clear ht
  obtain ⟨Ak, ck, rfl⟩ := hk.form
  have Hk := Lib.hid hk
  clear hk
  go_enter Try.func81, Try.ntmps81
  go_upto_region 1 with fail
  have k0 : Blk ((w.alloc (.cells #[.int .u64 a, .int .u64 b, .int .u64 f, .slice At T.length ct, .slice Ak K.length ck] 29)).alloc (.cells #[.int .u64 0, .int .u64 0, .int .u64 0, .slice none 0 0, .slice none 0 0] 29)) w.heap.size 29 #[.int .u64 a, .int .u64 b, .int .u64 f, .slice At T.length ct, .slice Ak K.length ck] := (Blk.new _ _ _).alloc _
  have k1 : Blk ((w.alloc (.cells #[.int .u64 a, .int .u64 b, .int .u64 f, .slice At T.length ct, .slice Ak K.length ck] 29)).alloc (.cells #[.int .u64 0, .int .u64 0, .int .u64 0, .slice none 0 0, .slice none 0 0] 29)) (w.heap.size + 1) 29 #[.int .u64 0, .int .u64 0, .int .u64 0, .slice none 0 0, .slice none 0 0] := Blk.new1 _ _ _ _
  have hB : Below w.heap.size w ((w.alloc (.cells #[.int .u64 a, .int .u64 b, .int .u64 f, .slice At T.length ct, .slice Ak K.length ck] 29)).alloc (.cells #[.int .u64 0, .int .u64 0, .int .u64 0, .slice none 0 0, .slice none 0 0] 29)) := bal (bal (Below.refl _ _) _) _
  generalize (w.alloc (.cells #[.int .u64 a, .int .u64 b, .int .u64 f, .slice At T.length ct, .slice Ak K.length ck] 29)).alloc (.cells #[.int .u64 0, .int .u64 0, .int .u64 0, .slice none 0 0, .slice none 0 0] 29) = W0 at k0 k1 hB ⊢
  obtain ⟨x0, x1, x2, x3, x4⟩ := k0.c5
  obtain ⟨f0, f1, f2, f3, f4⟩ := k0.f5
  have hl0 := k0.lt
  have hl1 := k1.lt
  have Jt := Lib.hid (Ht.out.below hB)
  have HO := Lib.hid (own0 W0 74 2)
  go_wp2_with (at_builtin; refine wpList_app_all (f := Rg.cells) rfl _ _ 26 rfl W0.heap.size 74 2 16 infoRg rfl (by decide) Try.underlying26 rg2 rg_one _ w w.heap.size [] T _ _ (by rfl) (by rfl) (SlAt.alloc Jt.out _) HO.out (bal hB _) hB.size (by simp) (by simp; omega) (by unfold maxLen; simp; omega) ?_)
  intro Bt dt U hown hBu hg
  try simp only [List.length_nil, Nat.zero_add, List.nil_append] at hown
  try simp only [List.length_nil, Nat.zero_add]
  replace hg : (W0.alloc (.cells #[] 74)).grownBy U (some W0.heap.size) := hg
  have Rt : RgsB (w.heap.size + 2) U (.slice Bt T.length dt) T := RowB.own hown (by omega)
  replace k0 := k0.grow1 hg
  replace k1 := k1.grow1 hg
  have hlu := k0.lt
  clear hown hg HO hB x0 x1 x2 x3 x4 f0 f1 f2 f3 f4 hl0 hl1 Jt
  obtain ⟨x0, x1, x2, x3, x4⟩ := k0.c5
  obtain ⟨f0, f1, f2, f3, f4⟩ := k0.f5
  replace k0 := k0.set 3 (.slice Bt T.length dt)
  replace k1 := k1.far (p := ⟨w.heap.size, 3, none⟩) (by show w.heap.size + 1 ≠ w.heap.size; omega) (.slice Bt T.length dt)
  have hB := bset hBu (p := ⟨w.heap.size, 3, none⟩) (Nat.le_refl _) (.slice Bt T.length dt)
  replace Rt := RowB.set Rt (p := ⟨w.heap.size, 3, none⟩) (by show w.heap.size < _; omega) (.slice Bt T.length dt)
  replace k0 : Blk (U.setCell ⟨w.heap.size, 3, none⟩ (.slice Bt T.length dt)) w.heap.size 29 #[.int .u64 a, .int .u64 b, .int .u64 f, .slice Bt T.length dt, .slice Ak K.length ck] := k0
  go_upto_region 2 with fail
  generalize U.setCell ⟨w.heap.size, 3, none⟩ (.slice Bt T.length dt) = W1 at k0 k1 hB Rt ⊢
  clear hBu hlu x0 x1 x2 x3 x4 f0 f1 f2 f3 f4
  obtain ⟨x0, x1, x2, x3, x4⟩ := k0.c5
  obtain ⟨f0, f1, f2, f3, f4⟩ := k0.f5
  have hl0 := k0.lt
  have hl1 := k1.lt
  have Jk := Lib.hid (Hk.out.below hB)
  have HO := Lib.hid (own0 W1 22 1)
  go_wp2_with (at_builtin; refine wpList_app_all (f := kc) rfl _ _ 27 rfl W1.heap.size 22 1 8 infoU rfl (by decide) Try.underlying27 kc1 kc_one _ w w.heap.size [] K _ _ (by rfl) (by rfl) (SlAt.alloc Jk.out _) HO.out (bal hB _) hB.size (by simp) (by simp; omega) (by unfold maxLen; simp; omega) ?_)
  intro Bk dk U hown hBu hg
  try simp only [List.length_nil, Nat.zero_add, List.nil_append] at hown
  try simp only [List.length_nil, Nat.zero_add]
  replace hg : (W1.alloc (.cells #[] 22)).grownBy U (some W1.heap.size) := hg
  have Rk : KpsB (w.heap.size + 2) U (.slice Bk K.length dk) K := RowB.own hown (by omega)
  replace k0 := k0.grow1 hg
  replace k1 := k1.grow1 hg
  replace Rt := RowB.grow1 Rt hg
  have hlu := k0.lt
  clear hown hg HO hB x0 x1 x2 x3 x4 f0 f1 f2 f3 f4 hl0 hl1 Jk
  obtain ⟨x0, x1, x2, x3, x4⟩ := k0.c5
  obtain ⟨f0, f1, f2, f3, f4⟩ := k0.f5
  replace k0 := k0.set 4 (.slice Bk K.length dk)
  replace k1 := k1.far (p := ⟨w.heap.size, 4, none⟩) (by show w.heap.size + 1 ≠ w.heap.size; omega) (.slice Bk K.length dk)
  have hB := bset hBu (p := ⟨w.heap.size, 4, none⟩) (Nat.le_refl _) (.slice Bk K.length dk)
  replace Rt := RowB.set Rt (p := ⟨w.heap.size, 4, none⟩) (by show w.heap.size < _; omega) (.slice Bk K.length dk)
  replace Rk := RowB.set Rk (p := ⟨w.heap.size, 4, none⟩) (by show w.heap.size < _; omega) (.slice Bk K.length dk)
  replace k0 : Blk (U.setCell ⟨w.heap.size, 4, none⟩ (.slice Bk K.length dk)) w.heap.size 29 #[.int .u64 a, .int .u64 b, .int .u64 f, .slice Bt T.length dt, .slice Bk K.length dk] := k0
  go_upto_region 3 with fail
  generalize U.setCell ⟨w.heap.size, 4, none⟩ (.slice Bk K.length dk) = W2 at k0 k1 hB Rt Rk ⊢
  clear hBu hlu x0 x1 x2 x3 x4 f0 f1 f2 f3 f4
  obtain ⟨x0, x1, x2, x3, x4⟩ := k0.c5
  obtain ⟨f0, f1, f2, f3, f4⟩ := k0.f5
  obtain ⟨y0, y1, y2, y3, y4⟩ := k1.c5
  obtain ⟨g0, g1, g2, g3, g4⟩ := k1.f5
  have hl0 := k0.lt
  have hl1 := k1.lt
  go_wp2_with fail
  refine bodyPost_ret (v := .agg #[.int .u64 a, .int .u64 b, .int .u64 f, .slice Bt T.length dt, .slice Bk K.length dk]) (by simp [results, Try.results81, go_sem, hl1, y0, y1, y2, y3, y4]) rfl ?_
  have hB2 := hB
  refine ⟨_, _, rfl, ?_, ?_, ?_⟩
  · repeat (first | with_reducible exact Rt | with_reducible refine RowB.set ?_ (by show w.heap.size + 1 < _; omega) _)
  · repeat (first | with_reducible exact Rk | with_reducible refine RowB.set ?_ (by show w.heap.size + 1 < _; omega) _)
  · repeat (first | with_reducible exact hB2 | with_reducible refine bset ?_ (by show w.heap.size ≤ w.heap.size + 1; omega) _)

set_option maxRecDepth 100000 in
set_option maxHeartbeats 4000000 in
theorem rown20_any (node th old : Int) (su : Bool) (g n r : Int) (S : List Sl) (a b f : Int) (T : List Rg) (K : List Int) (vs vt vk : Value) (w : World) (hs : SlsAt w vs S) (ht : RgsAt w vt T) (hk : KpsAt w vk K) (hsl : S.length ≤ 100000) (htl : T.length ≤ 100000) (hkl : K.length ≤ 100000) : Calls Try.prog 59 #[.agg #[.int .i64 node, .int .u64 th, .bool su, .int .u64 old, .int .u64 g, .int .u64 n, .int .u64 r, vs, .int .u64 a, .int .u64 b, .int .u64 f, vt, vk]] w (RetOwnP node th old su g n r S a b f T K w) := by
  obtain ⟨As, cs, rfl⟩ := hs.form
  have Hs := Lib.hid hs
  clear hs
  obtain ⟨At, ct, rfl⟩ := ht.form
  have Ht := Lib.hid ht
  clear ht
  obtain ⟨Ak, ck, rfl⟩ := hk.form
  have Hk := Lib.hid hk
  clear hk
  go_enter Try.func59, Try.ntmps59
  go_upto_region 1 with fail
  have k0 : Blk ((w.alloc (.cells #[.int .i64 node, .int .u64 th, .bool su, .int .u64 old, .int .u64 g, .int .u64 n, .int .u64 r, .slice As S.length cs, .int .u64 a, .int .u64 b, .int .u64 f, .slice At T.length ct, .slice Ak K.length ck] 31)).alloc (.cells #[.int .i64 0, .int .u64 0, .bool false, .int .u64 0, .int .u64 0, .int .u64 0, .int .u64 0, .slice none 0 0, .int .u64 0, .int .u64 0, .int .u64 0, .slice none 0 0, .slice none 0 0] 31)) w.heap.size 31 #[.int .i64 node, .int .u64 th, .bool su, .int .u64 old, .int .u64 g, .int .u64 n, .int .u64 r, .slice As S.length cs, .int .u64 a, .int .u64 b, .int .u64 f, .slice At T.length ct, .slice Ak K.length ck] := (Blk.new _ _ _).alloc _
  have k1 : Blk ((w.alloc (.cells #[.int .i64 node, .int .u64 th, .bool su, .int .u64 old, .int .u64 g, .int .u64 n, .int .u64 r, .slice As S.length cs, .int .u64 a, .int .u64 b, .int .u64 f, .slice At T.length ct, .slice Ak K.length ck] 31)).alloc (.cells #[.int .i64 0, .int .u64 0, .bool false, .int .u64 0, .int .u64 0, .int .u64 0, .int .u64 0, .slice none 0 0, .int .u64 0, .int .u64 0, .int .u64 0, .slice none 0 0, .slice none 0 0] 31)) (w.heap.size + 1) 31 #[.int .i64 0, .int .u64 0, .bool false, .int .u64 0, .int .u64 0, .int .u64 0, .int .u64 0, .slice none 0 0, .int .u64 0, .int .u64 0, .int .u64 0, .slice none 0 0, .slice none 0 0] := Blk.new1 _ _ _ _
  have hB : Below w.heap.size w ((w.alloc (.cells #[.int .i64 node, .int .u64 th, .bool su, .int .u64 old, .int .u64 g, .int .u64 n, .int .u64 r, .slice As S.length cs, .int .u64 a, .int .u64 b, .int .u64 f, .slice At T.length ct, .slice Ak K.length ck] 31)).alloc (.cells #[.int .i64 0, .int .u64 0, .bool false, .int .u64 0, .int .u64 0, .int .u64 0, .int .u64 0, .slice none 0 0, .int .u64 0, .int .u64 0, .int .u64 0, .slice none 0 0, .slice none 0 0] 31)) := bal (bal (Below.refl _ _) _) _
  generalize (w.alloc (.cells #[.int .i64 node, .int .u64 th, .bool su, .int .u64 old, .int .u64 g, .int .u64 n, .int .u64 r, .slice As S.length cs, .int .u64 a, .int .u64 b, .int .u64 f, .slice At T.length ct, .slice Ak K.length ck] 31)).alloc (.cells #[.int .i64 0, .int .u64 0, .bool false, .int .u64 0, .int .u64 0, .int .u64 0, .int .u64 0, .slice none 0 0, .int .u64 0, .int .u64 0, .int .u64 0, .slice none 0 0, .slice none 0 0] 31) = W0 at k0 k1 hB ⊢
  obtain ⟨x0, x1, x2, x3, x4, x5, x6, x7, x8, x9, x10, x11, x12⟩ := k0.c13
  obtain ⟨f0, f1, f2, f3, f4, f5, f6, f7, f8, f9, f10, f11, f12⟩ := k0.f13
  have hl0 := k0.lt
  have hl1 := k1.lt
  have Js := Lib.hid (Hs.out.below hB)
  have HO := Lib.hid (own0 W0 81 5)
  go_wp2_with (at_builtin; refine wpList_app_all (f := Sl.cells) rfl _ _ 23 rfl W0.heap.size 81 5 40 infoSlot rfl (by decide) Try.underlying23 sl5 sl_one _ w w.heap.size [] S _ _ (by rfl) (by rfl) (SlAt.alloc Js.out _) HO.out (bal hB _) hB.size (by simp) (by simp; omega) (by unfold maxLen; simp; omega) ?_)
  intro Bs ds U hown hBu hg
  try simp only [List.length_nil, Nat.zero_add, List.nil_append] at hown
  try simp only [List.length_nil, Nat.zero_add]
  replace hg : (W0.alloc (.cells #[] 81)).grownBy U (some W0.heap.size) := hg
  have Rs : SlsB (w.heap.size + 2) U (.slice Bs S.length ds) S := RowB.own hown (by omega)
  replace k0 := k0.grow1 hg
  replace k1 := k1.grow1 hg
  have hlu := k0.lt
  clear hown hg HO hB x0 x1 x2 x3 x4 x5 x6 x7 x8 x9 x10 x11 x12 f0 f1 f2 f3 f4 f5 f6 f7 f8 f9 f10 f11 f12 hl0 hl1 Js
  obtain ⟨x0, x1, x2, x3, x4, x5, x6, x7, x8, x9, x10, x11, x12⟩ := k0.c13
  obtain ⟨f0, f1, f2, f3, f4, f5, f6, f7, f8, f9, f10, f11, f12⟩ := k0.f13
  replace k0 := k0.set 7 (.slice Bs S.length ds)
  replace k1 := k1.far (p := ⟨w.heap.size, 7, none⟩) (by show w.heap.size + 1 ≠ w.heap.size; omega) (.slice Bs S.length ds)
  have hB := bset hBu (p := ⟨w.heap.size, 7, none⟩) (Nat.le_refl _) (.slice Bs S.length ds)
  replace Rs := RowB.set Rs (p := ⟨w.heap.size, 7, none⟩) (by show w.heap.size < _; omega) (.slice Bs S.length ds)
  replace k0 : Blk (U.setCell ⟨w.heap.size, 7, none⟩ (.slice Bs S.length ds)) w.heap.size 31 #[.int .i64 node, .int .u64 th, .bool su, .int .u64 old, .int .u64 g, .int .u64 n, .int .u64 r, .slice Bs S.length ds, .int .u64 a, .int .u64 b, .int .u64 f, .slice At T.length ct, .slice Ak K.length ck] := k0
  go_upto_region 2 with fail
  generalize U.setCell ⟨w.heap.size, 7, none⟩ (.slice Bs S.length ds) = W1 at k0 k1 hB Rs ⊢
  clear hBu hlu x0 x1 x2 x3 x4 x5 x6 x7 x8 x9 x10 x11 x12 f0 f1 f2 f3 f4 f5 f6 f7 f8 f9 f10 f11 f12
  obtain ⟨x0, x1, x2, x3, x4, x5, x6, x7, x8, x9, x10, x11, x12⟩ := k0.c13
  obtain ⟨f0, f1, f2, f3, f4, f5, f6, f7, f8, f9, f10, f11, f12⟩ := k0.f13
  have hl0 := k0.lt
  have hl1 := k1.lt
  have Jt := Lib.hid (Ht.out.below hB)
  have HO := Lib.hid (own0 W1 74 2)
  go_wp2_with (at_builtin; refine wpList_app_all (f := Rg.cells) rfl _ _ 26 rfl W1.heap.size 74 2 16 infoRg rfl (by decide) Try.underlying26 rg2 rg_one _ w w.heap.size [] T _ _ (by rfl) (by rfl) (SlAt.alloc Jt.out _) HO.out (bal hB _) hB.size (by simp) (by simp; omega) (by unfold maxLen; simp; omega) ?_)
  intro Bt dt U hown hBu hg
  try simp only [List.length_nil, Nat.zero_add, List.nil_append] at hown
  try simp only [List.length_nil, Nat.zero_add]
  replace hg : (W1.alloc (.cells #[] 74)).grownBy U (some W1.heap.size) := hg
  have Rt : RgsB (w.heap.size + 2) U (.slice Bt T.length dt) T := RowB.own hown (by omega)
  replace k0 := k0.grow1 hg
  replace k1 := k1.grow1 hg
  replace Rs := RowB.grow1 Rs hg
  have hlu := k0.lt
  clear hown hg HO hB x0 x1 x2 x3 x4 x5 x6 x7 x8 x9 x10 x11 x12 f0 f1 f2 f3 f4 f5 f6 f7 f8 f9 f10 f11 f12 hl0 hl1 Jt
  obtain ⟨x0, x1, x2, x3, x4, x5, x6, x7, x8, x9, x10, x11, x12⟩ := k0.c13
  obtain ⟨f0, f1, f2, f3, f4, f5, f6, f7, f8, f9, f10, f11, f12⟩ := k0.f13
  replace k0 := k0.set 11 (.slice Bt T.length dt)
  replace k1 := k1.far (p := ⟨w.heap.size, 11, none⟩) (by show w.heap.size + 1 ≠ w.heap.size; omega) (.slice Bt T.length dt)
  have hB := bset hBu (p := ⟨w.heap.size, 11, none⟩) (Nat.le_refl _) (.slice Bt T.length dt)
  replace Rs := RowB.set Rs (p := ⟨w.heap.size, 11, none⟩) (by show w.heap.size < _; omega) (.slice Bt T.length dt)
  replace Rt := RowB.set Rt (p := ⟨w.heap.size, 11, none⟩) (by show w.heap.size < _; omega) (.slice Bt T.length dt)
  replace k0 : Blk (U.setCell ⟨w.heap.size, 11, none⟩ (.slice Bt T.length dt)) w.heap.size 31 #[.int .i64 node, .int .u64 th, .bool su, .int .u64 old, .int .u64 g, .int .u64 n, .int .u64 r, .slice Bs S.length ds, .int .u64 a, .int .u64 b, .int .u64 f, .slice Bt T.length dt, .slice Ak K.length ck] := k0
  go_upto_region 3 with fail
  generalize U.setCell ⟨w.heap.size, 11, none⟩ (.slice Bt T.length dt) = W2 at k0 k1 hB Rs Rt ⊢
  clear hBu hlu x0 x1 x2 x3 x4 x5 x6 x7 x8 x9 x10 x11 x12 f0 f1 f2 f3 f4 f5 f6 f7 f8 f9 f10 f11 f12
  obtain ⟨x0, x1, x2, x3, x4, x5, x6, x7, x8, x9, x10, x11, x12⟩ := k0.c13
  obtain ⟨f0, f1, f2, f3, f4, f5, f6, f7, f8, f9, f10, f11, f12⟩ := k0.f13
  have hl0 := k0.lt
  have hl1 := k1.lt
  have Jk := Lib.hid (Hk.out.below hB)
  have HO := Lib.hid (own0 W2 22 1)
  go_wp2_with (at_builtin; refine wpList_app_all (f := kc) rfl _ _ 27 rfl W2.heap.size 22 1 8 infoU rfl (by decide) Try.underlying27 kc1 kc_one _ w w.heap.size [] K _ _ (by rfl) (by rfl) (SlAt.alloc Jk.out _) HO.out (bal hB _) hB.size (by simp) (by simp; omega) (by unfold maxLen; simp; omega) ?_)
  intro Bk dk U hown hBu hg
  try simp only [List.length_nil, Nat.zero_add, List.nil_append] at hown
  try simp only [List.length_nil, Nat.zero_add]
  replace hg : (W2.alloc (.cells #[] 22)).grownBy U (some W2.heap.size) := hg
  have Rk : KpsB (w.heap.size + 2) U (.slice Bk K.length dk) K := RowB.own hown (by omega)
  replace k0 := k0.grow1 hg
  replace k1 := k1.grow1 hg
  replace Rs := RowB.grow1 Rs hg
  replace Rt := RowB.grow1 Rt hg
  have hlu := k0.lt
  clear hown hg HO hB x0 x1 x2 x3 x4 x5 x6 x7 x8 x9 x10 x11 x12 f0 f1 f2 f3 f4 f5 f6 f7 f8 f9 f10 f11 f12 hl0 hl1 Jk
  obtain ⟨x0, x1, x2, x3, x4, x5, x6, x7, x8, x9, x10, x11, x12⟩ := k0.c13
  obtain ⟨f0, f1, f2, f3, f4, f5, f6, f7, f8, f9, f10, f11, f12⟩ := k0.f13
  replace k0 := k0.set 12 (.slice Bk K.length dk)
  replace k1 := k1.far (p := ⟨w.heap.size, 12, none⟩) (by show w.heap.size + 1 ≠ w.heap.size; omega) (.slice Bk K.length dk)
  have hB := bset hBu (p := ⟨w.heap.size, 12, none⟩) (Nat.le_refl _) (.slice Bk K.length dk)
  replace Rs := RowB.set Rs (p := ⟨w.heap.size, 12, none⟩) (by show w.heap.size < _; omega) (.slice Bk K.length dk)
  replace Rt := RowB.set Rt (p := ⟨w.heap.size, 12, none⟩) (by show w.heap.size < _; omega) (.slice Bk K.length dk)
  replace Rk := RowB.set Rk (p := ⟨w.heap.size, 12, none⟩) (by show w.heap.size < _; omega) (.slice Bk K.length dk)
  replace k0 : Blk (U.setCell ⟨w.heap.size, 12, none⟩ (.slice Bk K.length dk)) w.heap.size 31 #[.int .i64 node, .int .u64 th, .bool su, .int .u64 old, .int .u64 g, .int .u64 n, .int .u64 r, .slice Bs S.length ds, .int .u64 a, .int .u64 b, .int .u64 f, .slice Bt T.length dt, .slice Bk K.length dk] := k0
  go_upto_region 4 with fail
  generalize U.setCell ⟨w.heap.size, 12, none⟩ (.slice Bk K.length dk) = W3 at k0 k1 hB Rs Rt Rk ⊢
  clear hBu hlu x0 x1 x2 x3 x4 x5 x6 x7 x8 x9 x10 x11 x12 f0 f1 f2 f3 f4 f5 f6 f7 f8 f9 f10 f11 f12
  obtain ⟨x0, x1, x2, x3, x4, x5, x6, x7, x8, x9, x10, x11, x12⟩ := k0.c13
  obtain ⟨f0, f1, f2, f3, f4, f5, f6, f7, f8, f9, f10, f11, f12⟩ := k0.f13
  obtain ⟨y0, y1, y2, y3, y4, y5, y6, y7, y8, y9, y10, y11, y12⟩ := k1.c13
  obtain ⟨g0, g1, g2, g3, g4, g5, g6, g7, g8, g9, g10, g11, g12⟩ := k1.f13
  have hl0 := k0.lt
  have hl1 := k1.lt
  go_wp2_with fail
  refine bodyPost_ret (v := .agg #[.int .i64 node, .int .u64 th, .bool su, .int .u64 old, .int .u64 g, .int .u64 n, .int .u64 r, .slice Bs S.length ds, .int .u64 a, .int .u64 b, .int .u64 f, .slice Bt T.length dt, .slice Bk K.length dk]) (by simp [results, Try.results59, go_sem, hl1, y0, y1, y2, y3, y4, y5, y6, y7, y8, y9, y10, y11, y12]) rfl ?_
  have hB2 := hB
  refine ⟨_, _, _, rfl, ?_, ?_, ?_, ?_⟩
  · repeat (first | with_reducible exact Rs | with_reducible refine RowB.set ?_ (by show w.heap.size + 1 < _; omega) _)
  · repeat (first | with_reducible exact Rt | with_reducible refine RowB.set ?_ (by show w.heap.size + 1 < _; omega) _)
  · repeat (first | with_reducible exact Rk | with_reducible refine RowB.set ?_ (by show w.heap.size + 1 < _; omega) _)
  · repeat (first | with_reducible exact hB2 | with_reducible refine bset ?_ (by show w.heap.size ≤ w.heap.size + 1; omega) _)
end Go.Proofs.Ytfgkkflbpfocjaa

namespace Go.Proofs.Ytfgkkflbpfocjaa
open Go.RowKit
set_option linter.unusedVariables false
set_option linter.unusedSimpArgs false

theorem reads_rg {w : World} {A : Option Addr} {n : Nat} {l : List Rg} (h : Reads w 2 A n (fl Rg.cells l)) (hn : n = l.length) {i : Nat} {x : Rg} (hx : l[i]? = some x) :
    ∃ b o, A = some ⟨b, o, none⟩ ∧ b < w.heap.size ∧ w.cell? ⟨b, o + i * 2, none⟩ = some (.int .u64 x.f) ∧ w.cell? ⟨b, o + i * 2 + 1, none⟩ = some (.int .u64 x.t) := reads_fl2 rg2 h hn hx rfl
theorem reads_kp {w : World} {A : Option Addr} {n : Nat} {l : List Int} (h : Reads w 1 A n (fl kc l)) (hn : n = l.length) {i : Nat} {x : Int} (hx : l[i]? = some x) :
    ∃ b o, A = some ⟨b, o, none⟩ ∧ b < w.heap.size ∧ w.cell? ⟨b, o + i, none⟩ = some (.int .u64 x) := by
  obtain ⟨b, o, e, hb, hc⟩ := reads_fl kc1 h hn hx
  have := hc 0 _ rfl
  rw [Nat.mul_one, Nat.add_zero] at this
  exact ⟨b, o, e, hb, this⟩

set_option maxHeartbeats 1000000 in
theorem room_any (a b f : Int) (vt vk : Value) (w : World) (hb : 0 ≤ b) (hba : b ≤ a) (ha : a ≤ 18446744073709551615) (ht : ∃ A l c, vt = .slice A l c) (hk : ∃ A l c, vk = .slice A l c) :
    Calls Try.prog 103 #[.agg #[.int .u64 a, .int .u64 b, .int .u64 f, vt, vk]] w (RetI .u64 (a - b) w) := by
  obtain ⟨A, l, c, rfl⟩ := ht
  obtain ⟨A', l', c', rfl⟩ := hk
  have WS : IntKind.u64.wrap (a - b) = a - b := IntWalk.u64_in _ (by omega)
  go_enter Try.func103, Try.ntmps103
  go_wp2_with fail
  go_ret
  exact ⟨rfl, (by repeat (first | with_reducible exact Below.refl _ _ | with_reducible refine Below.drew ?_ | with_reducible refine below_drewN ?_ _ | with_reducible refine bal ?_ _ | with_reducible refine bset ?_ (by first | (simp; done) | (simp; omega)) _ | with_reducible refine bnext ?_ (by assumption) | with_reducible assumption))⟩

set_option maxHeartbeats 1000000 in
theorem inf_any (x : Rg) (n : Int) (g : Nat) (w : World) (hg : g < w.heap.size) (c0 : w.cell? ⟨g, 0, none⟩ = some (.int .u64 n)) :
    Calls Try.prog 119 #[.agg #[.int .u64 x.f, .int .u64 x.t], .pointer (some ⟨g, 0, none⟩)] w (RetB (x.inB n) w) := by
  have hne : ¬ g = w.heap.size := by omega
  by_cases h1 : x.f ≤ n
  · by_cases h2 : n < x.t
    · have R : Hid (x.inB n = true) := Lib.hid (by simp [Rg.inB, h1, h2])
      go_enter Try.func119, Try.ntmps119
      go_wp2_with fail
      go_ret
      exact ⟨by rw [R.out]; rfl, (by repeat (first | with_reducible exact Below.refl _ _ | with_reducible refine Below.drew ?_ | with_reducible refine below_drewN ?_ _ | with_reducible refine bal ?_ _ | with_reducible refine bset ?_ (by first | (simp; done) | (simp; omega)) _ | with_reducible refine bnext ?_ (by assumption) | with_reducible assumption))⟩
    · have R : Hid (x.inB n = false) := Lib.hid (by simp [Rg.inB, h1, h2])
      go_enter Try.func119, Try.ntmps119
      go_wp2_with fail
      go_ret
      exact ⟨by rw [R.out]; simp [h2], (by repeat (first | with_reducible exact Below.refl _ _ | with_reducible refine Below.drew ?_ | with_reducible refine below_drewN ?_ _ | with_reducible refine bal ?_ _ | with_reducible refine bset ?_ (by first | (simp; done) | (simp; omega)) _ | with_reducible refine bnext ?_ (by assumption) | with_reducible assumption))⟩
  · have R : Hid (x.inB n = false) := Lib.hid (by simp [Rg.inB, h1])
    go_enter Try.func119, Try.ntmps119
    go_wp2_with fail
    go_ret
    exact ⟨by rw [R.out]; rfl, (by repeat (first | with_reducible exact Below.refl _ _ | with_reducible refine Below.drew ?_ | with_reducible refine below_drewN ?_ _ | with_reducible refine bal ?_ _ | with_reducible refine bset ?_ (by first | (simp; done) | (simp; omega)) _ | with_reducible refine bnext ?_ (by assumption) | with_reducible assumption))⟩

/-- the number of the first range that holds a number; -1 if there is none -/
def rix (l : List Rg) (n : Int) : Nat := (l.findIdx fun x => x.inB n)
theorem rix_lt {l : List Rg} {n : Int} : rix l n < l.length ↔ inR l n = true := by
  unfold rix inR
  rw [List.findIdx_lt_length, List.any_eq_true]
theorem rix_at {l : List Rg} {n : Int} {k : Nat} {x : Rg} (hk : k ≤ rix l n) (h : l[k]? = some x) : (x.inB n = true → rix l n = k) ∧ (x.inB n = false → k + 1 ≤ rix l n) := by
  have hl := (List.getElem?_eq_some_iff.1 h).1
  have he := (List.getElem?_eq_some_iff.1 h).2
  unfold rix at hk ⊢
  constructor
  · intro hb
    refine Nat.le_antisymm (Nat.le_of_not_lt fun hlt => ?_) hk
    have := List.not_of_lt_findIdx hlt
    rw [he] at this
    exact absurd hb (by rw [this]; decide)
  · intro hb
    rcases Nat.lt_or_eq_of_le hk with d | d
    · exact d
    · exfalso
      have hw : l.findIdx (fun x => x.inB n) < l.length := by omega
      have := List.findIdx_getElem (w := hw)
      have e2 : l[l.findIdx (fun x => x.inB n)] = x := by
        have h3 : l[List.findIdx (fun x => x.inB n) l]? = some x := by rw [← d]; exact h
        rw [List.getElem?_eq_getElem hw] at h3
        exact Option.some.inj h3
      rw [e2, hb] at this
      cases this
theorem rix_len (l : List Rg) (n : Int) : rix l n ≤ l.length := List.findIdx_le_length

set_option maxHeartbeats 2000000 in
theorem ridx_any (l : List Rg) (n : Int) (v : Value) (g : Nat) (w : World) (hS : RgsAt w v l) (hg : g < w.heap.size) (c0 : w.cell? ⟨g, 0, none⟩ = some (.int .u64 n)) :
    Calls Try.prog 122 #[v, .func (.func 119) #[] #[.pointer (some ⟨g, 0, none⟩)]] w (RetI .i64 (if rix l n < l.length then (rix l n : Int) else -1) w) := by
  obtain ⟨A, c, rfl, h1, h2, hR⟩ := hS
  unfold maxLen at h2
  have HR := Lib.hid hR
  obtain ⟨ri, hri⟩ : ∃ ri, (if rix l n < l.length then (rix l n : Int) else -1) = ri := ⟨_, rfl⟩
  have RI := Lib.hid hri
  rw [hri]
  clear hR hri
  go_enter Try.func122, Try.ntmps122
  go_wp2_with fail
  go_loopw [5, 8] (fun _ a wr => ∃ k : Nat, k ≤ l.length ∧ a = .int .i64 k ∧ k ≤ rix l n ∧ Below w.heap.size w wr) (fun _ a _ => l.length - (intOf a).toNat)
  case atStart => exact ⟨0, by omega, rfl, by omega, Below.refl _ _⟩
  case round =>
    obtain ⟨k, hk, rfl, hf, hB⟩ := hrel
    obtain ⟨wy, rfl⟩ : ∃ wy : World, wy = wr := ⟨_, rfl⟩
    have HF := Lib.hid hf
    have HB := Lib.hid hB
    have hgy : g < wy.heap.size := by have := hB.size; omega
    have cy := (hB.cell (p := ⟨g, 0, none⟩) hg).trans c0
    clear hf hB
    by_cases hlt : k < l.length
    · obtain ⟨x, hx⟩ : ∃ x, l[k]? = some x := ⟨_, List.getElem?_eq_getElem hlt⟩
      obtain ⟨b, o, rfl, hb, p0, p1⟩ := reads_rg HR.out rfl hx
      have d0 := (HB.out.cell (p := ⟨b, o + k * 2, none⟩) hb).trans p0
      have d1 := (HB.out.cell (p := ⟨b, o + k * 2 + 1, none⟩) hb).trans p1
      have hki : (k : Int) < l.length := by omega
      have hk0 : (0 : Int) ≤ k := by omega
      obtain ⟨ha1, ha2⟩ := rix_at HF.out hx
      have CI := Lib.hid (fun w hg c0 => inf_any x n g w hg c0)
      cases hb2 : x.inB n with
      | true =>
        have E := Lib.hid (ha1 hb2)
        rw [hb2] at CI
        clear ha1 ha2 p0 p1 hx hb2
        go_wp2_with fail
        refine (CI.out _ hgy cy).mono ?_
        rintro e w1 ⟨rfl, hb1⟩
        have hB1 := bnext HB.out hb1
        clear hb1 d0 d1
        go_wp2_with fail
        go_ret
        exact ⟨ret_int (by rw [← RI.out, if_pos (by rw [E.out]; exact hlt), E.out]), hB1⟩
      | false =>
        have E := Lib.hid (ha2 hb2)
        rw [hb2] at CI
        clear ha1 ha2 p0 p1 hx hb2
        go_wp2_with fail
        refine (CI.out _ hgy cy).mono ?_
        rintro e w1 ⟨rfl, hb1⟩
        have hB1 := Lib.hid (bnext HB.out hb1)
        clear hb1 d0 d1
        go_wp2_with fail
        go_roundw
        case rel => exact ⟨k + 1, by omega, by go_num, E.out, hB1.out⟩
        case measure => simp [intOf]; omega
    · obtain rfl : k = l.length := by omega
      go_wp2_with fail
      go_ret
      exact ⟨ret_int (by rw [← RI.out, if_neg (by have := HF.out; omega)]), HB.out⟩

set_option maxHeartbeats 1000000 in
theorem cont_any (l : List Rg) (n : Int) (v : Value) (g : Nat) (w : World) (hS : RgsAt w v l) (hg : g < w.heap.size) (c0 : w.cell? ⟨g, 0, none⟩ = some (.int .u64 n)) :
    Calls Try.prog 118 #[v, .func (.func 119) #[] #[.pointer (some ⟨g, 0, none⟩)]] w (RetB (inR l n) w) := by
  have HI := Lib.hid (ridx_any l n v g w hS hg c0)
  obtain ⟨A, c, rfl⟩ := hS.form
  by_cases h : rix l n < l.length
  · have R := Lib.hid (rix_lt.1 h)
    rw [if_pos h] at HI
    obtain ⟨k, hk⟩ : ∃ k, rix l n = k := ⟨_, rfl⟩
    rw [hk] at HI
    have hk0 : ((k : Int) ≥ 0) := by omega
    clear h hk hS c0
    go_enter Try.func118, Try.ntmps118
    go_wp2_with fail
    refine HI.out.mono ?_
    rintro e w1 ⟨rfl, hb1⟩
    clear HI
    go_wp2_with fail
    go_ret
    exact ⟨by rw [R.out]; simp, hb1⟩
  · have R : Hid (inR l n = false) := Lib.hid (by rw [Bool.eq_false_iff]; exact fun c => h (rix_lt.2 c))
    rw [if_neg h] at HI
    clear h hS c0
    go_enter Try.func118, Try.ntmps118
    go_wp2_with fail
    refine HI.out.mono ?_
    rintro e w1 ⟨rfl, hb1⟩
    clear HI
    go_wp2_with fail
    go_ret
    exact ⟨by rw [R.out]; rfl, hb1⟩

set_option maxHeartbeats 1000000 in
theorem rin_any (l : List Rg) (n : Int) (v : Value) (w : World) (hS : RgsAt w v l) :
    Calls Try.prog 104 #[v, .int .u64 n] w (RetB (inR l n) w) := by
  have HS := Lib.hid hS
  obtain ⟨A, c, rfl⟩ := hS.form
  clear hS
  go_enter Try.func104, Try.ntmps104
  go_wp2_with fail
  refine (cont_any l n _ w.heap.size _ (RgsAt.below HS.out (bal (Below.refl _ _) _)) (by simp) (by rw [newcell]; rfl)).mono ?_
  rintro e w1 ⟨rfl, hb1⟩
  have hB1 := bnext (bal (Below.refl w.heap.size w) (.cells #[.int .u64 n] 22)) hb1
  clear hb1 HS
  go_wp2_with fail
  go_ret
  exact ⟨rfl, hB1⟩
end Go.Proofs.Ytfgkkflbpfocjaa

namespace Go.Proofs.Ytfgkkflbpfocjaa
open Go.RowKit
set_option linter.unusedVariables false
set_option linter.unusedSimpArgs false

/-- a block that is known whole, far from what was there -/
structure BK (w : World) (g : Nat) (t : TypeId) (cs : Array Value) (wx : World) : Prop where
  b : Blk wx g t cs
  hB : Below w.heap.size w wx
section
variable {w wx wy : World} {g : Nat} {t : TypeId} {cs : Array Value}
theorem BK.below (h : BK w g t cs wx) (hb : Below wx.heap.size wx wy) : BK w g t cs wy := ⟨h.b.below hb, bnext h.hB hb⟩
theorem BK.drew (h : BK w g t cs wx) : BK w g t cs wx.drew := h.below (Below.refl _ _).drew
end
/-- two of them -/
structure BK2 (w : World) (g : Nat) (t : TypeId) (cs : Array Value) (g' : Nat) (t' : TypeId) (cs' : Array Value) (wx : World) : Prop where
  b : Blk wx g t cs
  c : Blk wx g' t' cs'
  hB : Below w.heap.size w wx
section
variable {w wx wy : World} {g g' : Nat} {t t' : TypeId} {cs cs' : Array Value}
theorem BK2.below (h : BK2 w g t cs g' t' cs' wx) (hb : Below wx.heap.size wx wy) : BK2 w g t cs g' t' cs' wy := ⟨h.b.below hb, h.c.below hb, bnext h.hB hb⟩
theorem BK2.drew (h : BK2 w g t cs g' t' cs' wx) : BK2 w g t cs g' t' cs' wx.drew := h.below (Below.refl _ _).drew
end
theorem Blk.c2 {w : World} {g : Nat} {t : TypeId} {a b : Value} (h : Blk w g t #[a, b]) : w.cell? ⟨g, 0, none⟩ = some a ∧ w.cell? ⟨g, 1, none⟩ = some b := ⟨h.cell 0, h.cell 1⟩
theorem Blk.f2 {w : World} {g : Nat} {t : TypeId} {a b : Value} (h : Blk w g t #[a, b]) : w.frozen? ⟨g, 0, none⟩ = false ∧ w.frozen? ⟨g, 1, none⟩ = false := ⟨h.frozen 0, h.frozen 1⟩
theorem kpAt_get {l : List Int} {i : Nat} (h : i < l.length) : l[i]? = some (kpAt l i) := by
  unfold kpAt; rw [List.getD_eq_getElem?_getD, List.getElem?_eq_getElem h]; rfl
theorem rgAt_get {l : List Rg} {i : Nat} (h : i < l.length) : l[i]? = some (rgAt l i) := by
  unfold rgAt; rw [List.getD_eq_getElem?_getD, List.getElem?_eq_getElem h]; rfl

set_option maxRecDepth 100000 in
set_option maxHeartbeats 8000000 in
theorem vCheck_any (z : Rec) (hw : WfR z) (vt vk : Value) (w : World) (ht : RgsAt w vt z.tk) (hk : KpsAt w vk z.kp) :
    Calls Try.prog 61 #[.agg #[.int .u64 z.g, .int .u64 z.r, .int .u64 z.fl, vt, vk]] w (Ret2 .i64 .i64 (chkR z).1 ((chkR z).2 : Int) w) := by
  obtain ⟨a, b, f, T, K⟩ := z
  obtain ⟨⟨ha0, ha1⟩, ⟨hb0, hb1⟩, ⟨hf0, hf1⟩, hTw, hKw⟩ := hw
  dsimp only at *
  obtain ⟨A, ca, rfl, _, hca, hRt⟩ := id ht
  obtain ⟨C, cc, rfl, _, hcc, hRk⟩ := id hk
  unfold maxLen at hca hcc
  have HT := Lib.hid ht
  have HK := Lib.hid hk
  have HRt := Lib.hid hRt
  have HRk := Lib.hid hRk
  have HTw := Lib.hid hTw
  have HKw := Lib.hid hKw
  obtain ⟨ch, hch⟩ : ∃ ch, chkR ⟨a, b, f, T, K⟩ = ch := ⟨_, rfl⟩
  have CH : Hid (ch = if 1125899906842624 < a then (2, 0) else if a < b ∨ a - b < f then (14, 0) else if 1000 < T.length ∨ 1000 < K.length then (5, 0) else if (fstE (tErr ⟨a, b, f, T, K⟩) T.length 0).1 ≠ 0 then fstE (tErr ⟨a, b, f, T, K⟩) T.length 0 else fstE (kErr ⟨a, b, f, T, K⟩) K.length 0) := Lib.hid (by rw [← hch]; rfl)
  rw [hch]
  clear ht hk hRt hRk hTw hKw hch
  by_cases h1 : 1125899906842624 < a
  · have R := Lib.hid (CH.out.trans (if_pos h1))
    go_enter Try.func61, Try.ntmps61
    go_wp2_with fail
    go_ret2
    exact ⟨by rw [R.out]; rfl, (by repeat (first | with_reducible exact Below.refl _ _ | with_reducible refine Below.drew ?_ | with_reducible refine below_drewN ?_ _ | with_reducible refine bal ?_ _ | with_reducible refine bset ?_ (by first | (simp; done) | (simp; omega)) _ | with_reducible refine bnext ?_ (by assumption) | with_reducible assumption))⟩
  have h1i : ¬ a > 1125899906842624 := by omega
  have CH1 := Lib.hid (CH.out.trans (if_neg h1))
  clear CH h1
  by_cases h2 : a < b
  · have R := Lib.hid (CH1.out.trans (if_pos (.inl h2)))
    go_enter Try.func61, Try.ntmps61
    go_upto_region 3 with fail
    go_quiet (fail)
    go_wp2_with fail
    go_ret2
    exact ⟨by rw [R.out]; rfl, (by repeat (first | with_reducible exact Below.refl _ _ | with_reducible refine Below.drew ?_ | with_reducible refine below_drewN ?_ _ | with_reducible refine bal ?_ _ | with_reducible refine bset ?_ (by first | (simp; done) | (simp; omega)) _ | with_reducible refine bnext ?_ (by assumption) | with_reducible assumption))⟩
  have h2i : b ≤ a := by omega
  have RM := Lib.hid (fun w => room_any a b f (.slice A T.length ca) (.slice C K.length cc) w hb0 h2i ha1 ⟨_, _, _, rfl⟩ ⟨_, _, _, rfl⟩)
  obtain ⟨rm, hrm⟩ : ∃ rm, a - b = rm := ⟨_, rfl⟩
  rw [hrm] at RM CH1
  have hrm0 : 0 ≤ rm ∧ rm ≤ 1125899906842624 := by omega
  have HRM := Lib.hid hrm
  have N2 := Lib.hid h2
  clear h2 hrm
  go_enter Try.func61, Try.ntmps61
  go_upto_region 3 with fail
  have kb : BK w w.heap.size 29 #[.int .u64 a, .int .u64 b, .int .u64 f, .slice A T.length ca, .slice C K.length cc] (w.alloc (.cells #[.int .u64 a, .int .u64 b, .int .u64 f, .slice A T.length ca, .slice C K.length cc] 29)) := ⟨Blk.new _ _ _, bal (Below.refl _ _) _⟩
  obtain ⟨g0, hg0⟩ : ∃ g0, w.heap.size = g0 := ⟨_, rfl⟩
  have HG0 := Lib.hid hg0
  have hgw : g0 < (w.alloc (.cells #[.int .u64 a, .int .u64 b, .int .u64 f, .slice A T.length ca, .slice C K.length cc] 29)).heap.size := by rw [World.size_alloc]; omega
  have kb' : BK w g0 29 #[.int .u64 a, .int .u64 b, .int .u64 f, .slice A T.length ca, .slice C K.length cc] (w.alloc (.cells #[.int .u64 a, .int .u64 b, .int .u64 f, .slice A T.length ca, .slice C K.length cc] 29)) := by rw [← hg0]; exact kb
  clear kb
  generalize w.alloc (.cells #[.int .u64 a, .int .u64 b, .int .u64 f, .slice A T.length ca, .slice C K.length cc] 29) = w1 at kb' hgw ⊢
  rw [hg0]
  clear hg0
  obtain ⟨d3, hd3⟩ : ∃ d3, decide (f > rm) = d3 := ⟨_, rfl⟩
  have D3 := Lib.hid hd3
  clear hd3
  obtain ⟨x0, x1, x2, x3, x4⟩ := kb'.b.c5
  have K1 := Lib.hid kb'
  clear kb'
  go_cut [12] (fun s12 wx => s12 = .bool d3 ∧ BK w g0 29 #[.int .u64 a, .int .u64 b, .int .u64 f, .slice A T.length ca, .slice C K.length cc] wx)
  case first =>
    have n1 : decide (b > a) = false := by simp; omega
    have n2 : ¬ b > a := by omega
    go_region_with (go_at_call 103; refine (RM.out _).mono ?_; rintro e wn ⟨rfl, hbn⟩; have K' : BK w g0 29 #[.int .u64 a, .int .u64 b, .int .u64 f, .slice A T.length ca, .slice C K.length cc] wn := (by refine BK.below ?_ hbn; (repeat (first | with_reducible exact K1.out | with_reducible refine BK.drew ?_))); clear K1 x0 x1 x2 x3 x4; have K1 := Lib.hid K'; obtain ⟨x0, x1, x2, x3, x4⟩ := K'.b.c5; clear K' hbn)
    all_goals
      go_wp2_with fail
      go_meet
      exact ⟨by rw [← D3.out], K1.out⟩

  case rest =>
    obtain ⟨rfl, kx⟩ := hcut
    clear K1 x0 x1 x2 x3 x4
    obtain ⟨x0, x1, x2, x3, x4⟩ := kx.b.c5
    have K1 := Lib.hid kx
    have hgc := kx.b.lt
    clear kx
    by_cases h3 : f > rm
    · have R : Hid (ch = (14, 0)) := Lib.hid (CH1.out.trans (if_pos (.inr h3)))
      obtain rfl : d3 = true := by rw [← D3.out]; exact decide_eq_true h3
      go_wp2_with fail
      go_ret2
      exact ⟨by rw [R.out]; rfl, K1.out.hB⟩
    have CH2 := Lib.hid (CH1.out.trans (if_neg (fun c => c.elim N2.out (fun d => h3 d))))
    obtain rfl : d3 = false := by rw [← D3.out]; exact decide_eq_false h3
    clear CH1 D3 h3
    by_cases h4 : 1000 < T.length
    · have R : Hid (ch = (5, 0)) := Lib.hid (CH2.out.trans (if_pos (.inl h4)))
      have h4i : (T.length : Int) > 1000 := by omega
      go_wp2_with fail
      go_ret2
      exact ⟨by rw [R.out]; rfl, K1.out.hB⟩
    have h4i : ¬ (T.length : Int) > 1000 := by omega
    by_cases h5 : 1000 < K.length
    · have R : Hid (ch = (5, 0)) := Lib.hid (CH2.out.trans (if_pos (.inr h5)))
      have h5i : (K.length : Int) > 1000 := by omega
      go_wp2_with fail
      go_ret2
      exact ⟨by rw [R.out]; rfl, K1.out.hB⟩
    have h5i : ¬ (K.length : Int) > 1000 := by omega
    have CH3 := Lib.hid (CH2.out.trans (if_neg (fun c => c.elim h4 h5)))
    clear CH2
    have htl : T.length ≤ 1000 := by omega
    have hkl : K.length ≤ 1000 := by omega
    clear h4 h5
    go_wp2_with fail
    clear x0 x1 x2 x3 x4
    go_loopw [39] (fun s wr => ∃ k : Nat, k ≤ T.length ∧ s = .int .i64 k ∧ fstE (tErr ⟨a, b, f, T, K⟩) T.length 0 = fstE (tErr ⟨a, b, f, T, K⟩) (T.length - k) k ∧ BK w g0 29 #[.int .u64 a, .int .u64 b, .int .u64 f, .slice A T.length ca, .slice C K.length cc] wr) (fun s _ => T.length - (intOf s).toNat)
    case atStart => exact ⟨0, by omega, rfl, rfl, K1.out⟩
    case round =>
      obtain ⟨k, hk, rfl, hM, kb⟩ := hrel
      obtain ⟨wy, rfl⟩ : ∃ wy : World, wy = wr := ⟨_, rfl⟩
      have HM := Lib.hid hM
      have KB := Lib.hid kb
      clear hM K1
      obtain ⟨x0, x1, x2, x3, x4⟩ := kb.b.c5
      have hgy := kb.b.lt
      clear kb
      by_cases hlt : k < T.length
      · obtain ⟨bt, ot, rfl, hbt, p0, p1⟩ := reads_rg HRt.out rfl (rgAt_get hlt)
        have d0 := (KB.out.hB.cell (p := ⟨bt, ot + k * 2, none⟩) hbt).trans p0
        have d1 := (KB.out.hB.cell (p := ⟨bt, ot + k * 2 + 1, none⟩) hbt).trans p1
        clear p0 p1
        have HER : Hid (tErr ⟨a, b, f, T, K⟩ k = if (rgAt T k).t ≤ (rgAt T k).f ∨ (rgAt T k).f < f ∨ (0 < k ∧ (rgAt T k).f ≤ (rgAt T (k - 1)).t) then 19 else if rm < (rgAt T k).t then 14 else 0) := Lib.hid (by rw [← HRM.out]; rfl)
        have HIT := Lib.hid (fun e (h : tErr ⟨a, b, f, T, K⟩ k = e) (he : e ≠ 0) => (by rw [CH3.out, HM.out, fstE_hit hlt (by rw [h]; exact he), h, if_pos he] : ch = (e, k)))
        have MIS := Lib.hid (fun (h : tErr ⟨a, b, f, T, K⟩ k = 0) => HM.out.trans (fstE_miss hlt h))
        have hki : (k : Int) < T.length := by omega
        have hk0 : (0 : Int) ≤ k := by omega
        obtain ⟨x, hx⟩ : ∃ x, rgAt T k = x := ⟨_, rfl⟩
        rw [hx] at d0 d1 HER
        clear hx
        go_upto_region 10 with fail
        have kc2 : BK2 w g0 29 #[.int .u64 a, .int .u64 b, .int .u64 f, .slice (some ⟨bt, ot, none⟩) T.length ca, .slice C K.length cc] wy.heap.size 74 #[.int .u64 x.f, .int .u64 x.t] (wy.alloc (.cells #[.int .u64 x.f, .int .u64 x.t] 74)) := ⟨KB.out.b.alloc _, Blk.new _ _ _, bal KB.out.hB _⟩
        have dprev : ∀ j, j < T.length → ∀ y, rgAt T j = y → (wy.alloc (.cells #[.int .u64 x.f, .int .u64 x.t] 74)).cell? ⟨bt, ot + j * 2 + 1, none⟩ = some (.int .u64 y.t) := fun j hj y hy => by
          obtain ⟨b2, o2, e2, _, p0, p1⟩ := reads_rg HRt.out rfl (rgAt_get hj)
          cases e2
          rw [hy] at p1
          exact ((bal KB.out.hB (.cells #[.int .u64 x.f, .int .u64 x.t] 74)).cell (p := ⟨bt, ot + j * 2 + 1, none⟩) hbt).trans p1
        obtain ⟨gx, hgx⟩ : ∃ gx, wy.heap.size = gx := ⟨_, rfl⟩
        rw [hgx] at kc2 ⊢
        have hgxn : ¬ g0 = gx := by omega
        clear d0 d1 x0 x1 x2 x3 x4
        generalize wy.alloc (.cells #[.int .u64 x.f, .int .u64 x.t] 74) = wz at kc2 dprev ⊢
        obtain ⟨x0, x1, x2, x3, x4⟩ := kc2.b.c5
        obtain ⟨y0, y1⟩ := kc2.c.c2
        have KC := Lib.hid kc2
        clear kc2 hgx KB
        by_cases c1 : x.f ≥ x.t
        · have R := Lib.hid (HIT.out 19 (HER.out.trans (if_pos (.inl c1))) (by decide))
          clear dprev
          go_quiet (fail)
          go_wp2_with fail
          go_ret2
          exact ⟨by rw [R.out]; rfl, below_drewN KC.out.hB _⟩
        by_cases c2 : x.f < f
        · have R := Lib.hid (HIT.out 19 (HER.out.trans (if_pos (.inr (.inl c2)))) (by decide))
          clear dprev
          go_quiet (fail)
          go_wp2_with fail
          go_ret2
          exact ⟨by rw [R.out]; rfl, below_drewN KC.out.hB _⟩
        have RG : Hid (∀ wv, BK2 w g0 29 #[.int .u64 a, .int .u64 b, .int .u64 f, .slice (some ⟨bt, ot, none⟩) T.length ca, .slice C K.length cc] gx 74 #[.int .u64 x.f, .int .u64 x.t] wv → Calls Try.prog 103 #[.agg #[.int .u64 a, .int .u64 b, .int .u64 f, .slice (some ⟨bt, ot, none⟩) T.length ca, .slice C K.length cc]] wv (RetI .u64 rm wv)) := Lib.hid (fun wv _ => RM.out wv)
        obtain ⟨d4, hd4⟩ : ∃ d4, decide (x.t > rm) = d4 := ⟨_, rfl⟩
        have D4 := Lib.hid hd4
        clear hd4
        by_cases c0 : k = 0
        · have NER := Lib.hid (HER.out.trans (if_neg (fun c => c.elim (fun d => c1 d) (fun d => d.elim c2 (fun g => by omega)))))
          subst c0
          clear dprev
          go_quiet (fail)
          go_upto_region 12 with fail
          have kq := (show BK2 w g0 29 #[.int .u64 a, .int .u64 b, .int .u64 f, .slice (some ⟨bt, ot, none⟩) T.length ca, .slice C K.length cc] gx 74 #[.int .u64 x.f, .int .u64 x.t] _ from KC.out.below (below_drewN (Below.refl _ _) nq))
          generalize wz.drewN nq = wq at kq ⊢
          have KQ := Lib.hid kq
          clear kq KC x0 x1 x2 x3 x4 y0 y1
          obtain ⟨x0, x1, x2, x3, x4⟩ := KQ.out.b.c5
          obtain ⟨y0, y1⟩ := KQ.out.c.c2
          have hgq := KQ.out.b.lt
          have hgq2 := KQ.out.c.lt
          go_cut [74] (fun s wx => s = .bool d4 ∧ BK2 w g0 29 #[.int .u64 a, .int .u64 b, .int .u64 f, .slice (some ⟨bt, ot, none⟩) T.length ca, .slice C K.length cc] gx 74 #[.int .u64 x.f, .int .u64 x.t] wx)
          case first =>
            go_region_with (go_at_call 103; refine (RM.out _).mono ?_; rintro e wn ⟨rfl, hbn⟩; have K' : BK2 w g0 29 #[.int .u64 a, .int .u64 b, .int .u64 f, .slice (some ⟨bt, ot, none⟩) T.length ca, .slice C K.length cc] gx 74 #[.int .u64 x.f, .int .u64 x.t] wn := (by refine BK2.below ?_ hbn; (repeat (first | with_reducible exact KQ.out | with_reducible refine BK2.drew ?_))); clear KQ x0 x1 x2 x3 x4 y0 y1; have KQ := Lib.hid K'; obtain ⟨x0, x1, x2, x3, x4⟩ := K'.b.c5; obtain ⟨y0, y1⟩ := K'.c.c2; clear K' hbn)
            all_goals
              go_wp2_with fail
              go_meet
              exact ⟨by rw [← D4.out], KQ.out⟩
          case rest =>
            obtain ⟨rfl, kx⟩ := hcut
            have KX := Lib.hid kx
            clear kx KQ x0 x1 x2 x3 x4 y0 y1
            by_cases c5 : x.t > rm
            · have R := Lib.hid (HIT.out 14 (NER.out.trans (if_pos c5)) (by decide))
              obtain rfl : d4 = true := by rw [← D4.out]; exact decide_eq_true c5
              go_wp2_with fail
              go_ret2
              exact ⟨by rw [R.out]; rfl, KX.out.hB⟩
            · have M2 := Lib.hid (MIS.out (NER.out.trans (if_neg c5)))
              obtain rfl : d4 = false := by rw [← D4.out]; exact decide_eq_false c5
              go_wp2_with fail
              go_roundw
              case rel => exact ⟨0 + 1, by omega, by go_num, M2.out, ⟨KX.out.b, KX.out.hB⟩⟩
              case measure => simp [intOf]; omega
        · obtain ⟨m, rfl⟩ : ∃ m, k = m + 1 := ⟨k - 1, by omega⟩
          have q1 := dprev m (by omega) _ rfl
          obtain ⟨y, hy⟩ : ∃ y, rgAt T m = y := ⟨_, rfl⟩
          rw [Nat.add_sub_cancel, hy] at HER
          rw [hy] at q1
          have hm1 : ((m + 1 : Nat) : Int) > 0 := by omega
          have WM : IntKind.i64.wrap (((m + 1 : Nat) : Int) - 1) = (m : Int) := by rw [show ((m + 1 : Nat) : Int) - 1 = m by omega]; exact IntWalk.i64_in _ (by omega)
          have hmi : (m : Int) < T.length := by omega
          have hm0 : (0 : Int) ≤ m := by omega
          clear hy dprev
          by_cases c3 : x.f ≤ y.t
          · have R := Lib.hid (HIT.out 19 (HER.out.trans (if_pos (.inr (.inr ⟨by omega, c3⟩)))) (by decide))
            go_quiet (fail)
            go_wp2_with fail
            go_ret2
            exact ⟨by rw [R.out]; rfl, below_drewN KC.out.hB _⟩
          · have NER := Lib.hid (HER.out.trans (if_neg (fun c => c.elim (fun d => c1 d) (fun d => d.elim c2 (fun g => c3 g.2)))))
            go_quiet (fail)
            clear q1
            go_upto_region 12 with fail
            have kq := (show BK2 w g0 29 #[.int .u64 a, .int .u64 b, .int .u64 f, .slice (some ⟨bt, ot, none⟩) T.length ca, .slice C K.length cc] gx 74 #[.int .u64 x.f, .int .u64 x.t] _ from KC.out.below (below_drewN (Below.refl _ _) nq))
            generalize wz.drewN nq = wq at kq ⊢
            have KQ := Lib.hid kq
            clear kq KC x0 x1 x2 x3 x4 y0 y1
            obtain ⟨x0, x1, x2, x3, x4⟩ := KQ.out.b.c5
            obtain ⟨y0, y1⟩ := KQ.out.c.c2
            have hgq := KQ.out.b.lt
            have hgq2 := KQ.out.c.lt
            go_cut [74] (fun s wx => s = .bool d4 ∧ BK2 w g0 29 #[.int .u64 a, .int .u64 b, .int .u64 f, .slice (some ⟨bt, ot, none⟩) T.length ca, .slice C K.length cc] gx 74 #[.int .u64 x.f, .int .u64 x.t] wx)
            case first =>
              go_region_with (go_at_call 103; refine (RM.out _).mono ?_; rintro e wn ⟨rfl, hbn⟩; have K' : BK2 w g0 29 #[.int .u64 a, .int .u64 b, .int .u64 f, .slice (some ⟨bt, ot, none⟩) T.length ca, .slice C K.length cc] gx 74 #[.int .u64 x.f, .int .u64 x.t] wn := (by refine BK2.below ?_ hbn; (repeat (first | with_reducible exact KQ.out | with_reducible refine BK2.drew ?_))); clear KQ x0 x1 x2 x3 x4 y0 y1; have KQ := Lib.hid K'; obtain ⟨x0, x1, x2, x3, x4⟩ := K'.b.c5; obtain ⟨y0, y1⟩ := K'.c.c2; clear K' hbn)
              all_goals
                go_wp2_with fail
                go_meet
                exact ⟨by rw [← D4.out], KQ.out⟩
            case rest =>
              obtain ⟨rfl, kx⟩ := hcut
              have KX := Lib.hid kx
              clear kx KQ x0 x1 x2 x3 x4 y0 y1
              by_cases c5 : x.t > rm
              · have R := Lib.hid (HIT.out 14 (NER.out.trans (if_pos c5)) (by decide))
                obtain rfl : d4 = true := by rw [← D4.out]; exact decide_eq_true c5
                go_wp2_with fail
                go_ret2
                exact ⟨by rw [R.out]; rfl, KX.out.hB⟩
              · have M2 := Lib.hid (MIS.out (NER.out.trans (if_neg c5)))
                obtain rfl : d4 = false := by rw [← D4.out]; exact decide_eq_false c5
                go_wp2_with fail
                go_roundw
                case rel => exact ⟨(m + 1) + 1, by omega, by go_num, M2.out, ⟨KX.out.b, KX.out.hB⟩⟩
                case measure => simp [intOf]; omega
      · obtain rfl : k = T.length := by omega
        have CH4 : Hid (ch = fstE (kErr ⟨a, b, f, T, K⟩) K.length 0) := Lib.hid (by rw [CH3.out, HM.out, fstE_end, if_neg (by decide)])
        clear HM
        go_wp2_with fail
        clear x0 x1 x2 x3 x4
        go_loopw [85] (fun s wr => ∃ k : Nat, k ≤ K.length ∧ s = .int .i64 k ∧ fstE (kErr ⟨a, b, f, T, K⟩) K.length 0 = fstE (kErr ⟨a, b, f, T, K⟩) (K.length - k) k ∧ BK w g0 29 #[.int .u64 a, .int .u64 b, .int .u64 f, .slice A T.length ca, .slice C K.length cc] wr) (fun s _ => K.length - (intOf s).toNat)
        case atStart => exact ⟨0, by omega, rfl, rfl, KB.out⟩
        case round =>
          obtain ⟨k, hk, rfl, hM, kb⟩ := hrel
          obtain ⟨wk, rfl⟩ : ∃ wk : World, wk = wr := ⟨_, rfl⟩
          have HM := Lib.hid hM
          have KK := Lib.hid kb
          clear hM KB
          obtain ⟨x0, x1, x2, x3, x4⟩ := kb.b.c5
          have hgy := kb.b.lt
          have HTk := Lib.hid (RgsAt.below HT.out kb.hB)
          clear kb
          by_cases hlt : k < K.length
          · obtain ⟨bk, ok, rfl, hbk, p0⟩ := reads_kp HRk.out rfl (kpAt_get hlt)
            have d0 := (KK.out.hB.cell (p := ⟨bk, ok + k, none⟩) hbk).trans p0
            have HER : Hid (kErr ⟨a, b, f, T, K⟩ k = if 0 < k ∧ kpAt K k ≤ kpAt K (k - 1) then 19 else if inR T (kpAt K k) = false then 12 else 0) := Lib.hid rfl
            have HIT := Lib.hid (fun e (h : kErr ⟨a, b, f, T, K⟩ k = e) (he : e ≠ 0) => (by rw [CH4.out, HM.out, fstE_hit hlt (by rw [h]; exact he), h] : ch = (e, k)))
            have MIS := Lib.hid (fun (h : kErr ⟨a, b, f, T, K⟩ k = 0) => HM.out.trans (fstE_miss hlt h))
            have hki : (k : Int) < K.length := by omega
            have hk0 : (0 : Int) ≤ k := by omega
            have CN : Hid (∀ wv, BK w g0 29 #[.int .u64 a, .int .u64 b, .int .u64 f, .slice A T.length ca, .slice (some ⟨bk, ok, none⟩) K.length cc] wv → Calls Try.prog 104 #[.slice A T.length ca, .int .u64 (kpAt K k)] wv (RetB (inR T (kpAt K k)) wv)) := Lib.hid (fun wv hv => rin_any T (kpAt K k) _ wv (RgsAt.below HT.out hv.hB))
            have dprev : ∀ j, j < K.length → ∀ y, kpAt K j = y → wk.cell? ⟨bk, ok + j, none⟩ = some (.int .u64 y) := fun j hj y hy => by
              obtain ⟨b2, o2, e2, _, p1⟩ := reads_kp HRk.out rfl (kpAt_get hj)
              cases e2
              rw [hy] at p1
              exact (KK.out.hB.cell (p := ⟨bk, ok + j, none⟩) hbk).trans p1
            obtain ⟨x, hx⟩ : ∃ x, kpAt K k = x := ⟨_, rfl⟩
            rw [hx] at d0 HER CN
            clear hx p0
            obtain ⟨ib, hib⟩ : ∃ ib, inR T x = ib := ⟨_, rfl⟩
            rw [hib] at HER CN
            clear hib
            by_cases c0 : k = 0
            · subst c0
              simp only [Nat.add_zero] at d0
              clear dprev
              cases ib with
              | false =>
                have R := Lib.hid (HIT.out 12 (by rw [HER.out, if_neg (fun c => absurd c.1 (by omega))]; rfl) (by decide))
                go_wp2_with fail
                refine (CN.out _ KK.out).mono ?_
                rintro e wn ⟨rfl, hbn⟩
                have hBn := bnext KK.out.hB hbn
                clear hbn
                go_wp2_with fail
                go_ret2
                exact ⟨by rw [R.out]; rfl, hBn⟩
              | true =>
                have M2 := Lib.hid (MIS.out (by rw [HER.out, if_neg (fun c => absurd c.1 (by omega))]; rfl))
                go_wp2_with fail
                refine (CN.out _ KK.out).mono ?_
                rintro e wn ⟨rfl, hbn⟩
                have KN := Lib.hid (KK.out.below hbn)
                clear hbn x0 x1 x2 x3 x4
                obtain ⟨x0, x1, x2, x3, x4⟩ := KN.out.b.c5
                go_wp2_with fail
                go_roundw
                case rel => exact ⟨0 + 1, by omega, by go_num, M2.out, KN.out⟩
                case measure => simp [intOf]; omega
            · obtain ⟨m, rfl⟩ : ∃ m, k = m + 1 := ⟨k - 1, by omega⟩
              have q1 := dprev m (by omega) _ rfl
              obtain ⟨y, hy⟩ : ∃ y, kpAt K m = y := ⟨_, rfl⟩
              have HER2 : Hid (kErr ⟨a, b, f, T, K⟩ (m + 1) = if x ≤ y then 19 else if ib = false then 12 else 0) := Lib.hid (by
                rw [HER.out, Nat.add_sub_cancel, hy]
                by_cases c : x ≤ y
                · rw [if_pos c, if_pos ⟨by omega, c⟩]
                · rw [if_neg c, if_neg (fun h => c h.2)])
              rw [hy] at q1
              have hm1 : ((m + 1 : Nat) : Int) > 0 := by omega
              have WM : IntKind.i64.wrap (((m + 1 : Nat) : Int) - 1) = (m : Int) := by rw [show ((m + 1 : Nat) : Int) - 1 = m by omega]; exact IntWalk.i64_in _ (by omega)
              have hmi : (m : Int) < K.length := by omega
              have hm0 : (0 : Int) ≤ m := by omega
              clear hy dprev HER
              by_cases c3 : x ≤ y
              · have R := Lib.hid (HIT.out 19 (HER2.out.trans (if_pos c3)) (by decide))
                go_wp2_with fail
                go_ret2
                exact ⟨by rw [R.out]; rfl, KK.out.hB⟩
              · have HER3 := Lib.hid (HER2.out.trans (if_neg c3))
                clear HER2
                cases ib with
                | false =>
                  have R := Lib.hid (HIT.out 12 (by rw [HER3.out]; rfl) (by decide))
                  go_wp2_with fail
                  refine (CN.out _ KK.out).mono ?_
                  rintro e wn ⟨rfl, hbn⟩
                  have hBn := bnext KK.out.hB hbn
                  clear hbn
                  go_wp2_with fail
                  go_ret2
                  exact ⟨by rw [R.out]; rfl, hBn⟩
                | true =>
                  have M2 := Lib.hid (MIS.out (by rw [HER3.out]; rfl))
                  go_wp2_with fail
                  refine (CN.out _ KK.out).mono ?_
                  rintro e wn ⟨rfl, hbn⟩
                  have KN := Lib.hid (KK.out.below hbn)
                  clear hbn x0 x1 x2 x3 x4
                  obtain ⟨x0, x1, x2, x3, x4⟩ := KN.out.b.c5
                  go_wp2_with fail
                  go_roundw
                  case rel => exact ⟨(m + 1) + 1, by omega, by go_num, M2.out, KN.out⟩
                  case measure => simp [intOf]; omega
          · obtain rfl : k = K.length := by omega
            have R : Hid (ch = (0, 0)) := Lib.hid (by rw [CH4.out, HM.out, fstE_end])
            go_wp2_with fail
            go_ret2
            exact ⟨by rw [R.out]; rfl, KK.out.hB⟩
end Go.Proofs.Ytfgkkflbpfocjaa

namespace Go.Proofs.Ytfgkkflbpfocjaa
open Go.RowKit
set_option linter.unusedVariables false
set_option linter.unusedSimpArgs false

theorem RowB.drew {B : Nat} {w : World} {k : Nat} {v : Value} {n : Nat} {xs : List Value} (h : RowB B w k v n xs) : RowB B w.drew k v n xs := h
theorem RowB.nil (B : Nat) (w : World) (k : Nat) : RowB B w k (.slice none 0 0) 0 [] := ⟨none, 0, rfl, Nat.le_refl _, Nat.zero_le _, by simp, fun h => absurd h (by omega)⟩
theorem SlAt.none0 {w : World} {k n c : Nat} {xs : List Value} (h : SlAt w k (.slice none n c) n xs) : n = 0 := by
  obtain ⟨A, c', e, _, _, hR⟩ := h
  cases e
  rcases Nat.eq_zero_or_pos n with h | h
  · exact h
  · obtain ⟨b, o, e, _⟩ := hR.2 h
    cases e
def RetRgs (l : List Rg) (w : World) (e : Ending) (w' : World) : Prop := ∃ A c, e = .returned (.slice A l.length c) ∧ RgsB w.heap.size w' (.slice A l.length c) l ∧ Below w.heap.size w w'
def RetKps (l : List Int) (w : World) (e : Ending) (w' : World) : Prop := ∃ A c, e = .returned (.slice A l.length c) ∧ KpsB w.heap.size w' (.slice A l.length c) l ∧ Below w.heap.size w w'


set_option maxHeartbeats 2000000 in
theorem CloneR_any (l : List Rg) (v : Value) (w : World) (h : RgsAt w v l) (hl : l.length ≤ 100000) : Calls Try.prog 93 #[v] w (RetRgs l w) := by
  have H := Lib.hid h
  obtain ⟨A, c, rfl⟩ := h.form
  have he := fun (w : World) (a : Option Addr) (n c : Nat) => Lib.run_eql_slice_nil w 26 74 a n c 0 0 Try.underlying26
  cases A with
  | none =>
    have h0 := SlAt.none0 h
    have hn : l = [] := List.eq_nil_of_length_eq_zero h0
    subst hn
    clear h0 h H
    go_enter Try.func93, Try.ntmps93
    go_wp2_with fail
    go_ret
    exact ⟨none, 0, rfl, RowB.nil _ _ _, Below.refl _ _⟩
  | some ad =>
    clear h
    have HO := Lib.hid (own0 w 74 2)
    go_enter Try.func93, Try.ntmps93
    go_wp2_with (at_builtin; refine wpList_app_all (f := Rg.cells) rfl _ _ 26 rfl w.heap.size 74 2 16 infoRg rfl (by decide) Try.underlying26 rg2 rg_one _ w w.heap.size [] l _ _ (by rfl) (by rfl) (SlAt.alloc H.out _) HO.out (bal (Below.refl _ _) _) (Nat.le_refl _) (by simp) (by simp; omega) (by unfold maxLen; simp; omega) ?_)
    intro B d U hown hBu hg
    try simp only [List.length_nil, Nat.zero_add, List.nil_append] at hown
    try simp only [List.length_nil, Nat.zero_add]
    go_wp2_with fail
    go_ret
    exact ⟨B, d, rfl, RowB.own hown (Nat.le_refl _), hBu⟩

set_option maxHeartbeats 2000000 in
theorem CloneK_any (l : List Int) (v : Value) (w : World) (h : KpsAt w v l) (hl : l.length ≤ 100000) : Calls Try.prog 94 #[v] w (RetKps l w) := by
  have H := Lib.hid h
  obtain ⟨A, c, rfl⟩ := h.form
  have he := fun (w : World) (a : Option Addr) (n c : Nat) => Lib.run_eql_slice_nil w 27 22 a n c 0 0 Try.underlying27
  cases A with
  | none =>
    have h0 := SlAt.none0 h
    have hn : l = [] := List.eq_nil_of_length_eq_zero h0
    subst hn
    clear h0 h H
    go_enter Try.func94, Try.ntmps94
    go_wp2_with fail
    go_ret
    exact ⟨none, 0, rfl, RowB.nil _ _ _, Below.refl _ _⟩
  | some ad =>
    clear h
    have HO := Lib.hid (own0 w 22 1)
    go_enter Try.func94, Try.ntmps94
    go_wp2_with (at_builtin; refine wpList_app_all (f := kc) rfl _ _ 27 rfl w.heap.size 22 1 8 infoU rfl (by decide) Try.underlying27 kc1 kc_one _ w w.heap.size [] l _ _ (by rfl) (by rfl) (SlAt.alloc H.out _) HO.out (bal (Below.refl _ _) _) (Nat.le_refl _) (by simp) (by simp; omega) (by unfold maxLen; simp; omega) ?_)
    intro B d U hown hBu hg
    try simp only [List.length_nil, Nat.zero_add, List.nil_append] at hown
    try simp only [List.length_nil, Nat.zero_add]
    go_wp2_with fail
    go_ret
    exact ⟨B, d, rfl, RowB.own hown (Nat.le_refl _), hBu⟩

set_option maxRecDepth 100000 in
set_option maxHeartbeats 4000000 in
theorem setCheck_any (l : List Rg) (v : Value) (w : World) (h : RgsAt w v l) : Calls Try.prog 123 #[v] w (Ret2 .i64 .i64 (setE l).1 ((setE l).2 : Int) w) := by
  obtain ⟨A, c, rfl, _, hca, hR⟩ := id h
  unfold maxLen at hca
  have HR := Lib.hid hR
  obtain ⟨ch, hch⟩ : ∃ ch, setE l = ch := ⟨_, rfl⟩
  have CH : Hid (ch = if 1000 < l.length then (5, 0) else fstE (seE l) l.length 0) := Lib.hid (by rw [← hch]; rfl)
  rw [hch]
  clear h hR hch
  by_cases h1 : 1000 < l.length
  · have R := Lib.hid (CH.out.trans (if_pos h1))
    have h1i : (l.length : Int) > 1000 := by omega
    go_enter Try.func123, Try.ntmps123
    go_wp2_with fail
    go_ret2
    exact ⟨by rw [R.out]; rfl, (by repeat (first | with_reducible exact Below.refl _ _ | with_reducible refine Below.drew ?_ | with_reducible refine below_drewN ?_ _ | with_reducible refine bal ?_ _ | with_reducible refine bset ?_ (by first | (simp; done) | (simp; omega)) _ | with_reducible refine bnext ?_ (by assumption) | with_reducible assumption))⟩
  have h1i : ¬ (l.length : Int) > 1000 := by omega
  have CH1 := Lib.hid (CH.out.trans (if_neg h1))
  clear CH
  go_enter Try.func123, Try.ntmps123
  go_wp2_with fail
  go_loopw [11] (fun s wr => ∃ k : Nat, k ≤ l.length ∧ s = .int .i64 k ∧ fstE (seE l) l.length 0 = fstE (seE l) (l.length - k) k ∧ Below w.heap.size w wr) (fun s _ => l.length - (intOf s).toNat)
  case atStart => exact ⟨0, by omega, rfl, rfl, Below.refl _ _⟩
  case round =>
    obtain ⟨k, hk, rfl, hM, hB⟩ := hrel
    obtain ⟨wy, rfl⟩ : ∃ wy : World, wy = wr := ⟨_, rfl⟩
    have HM := Lib.hid hM
    have HB := Lib.hid hB
    clear hM hB
    by_cases hlt : k < l.length
    · obtain ⟨bt, ot, rfl, hbt, p0, p1⟩ := reads_rg HR.out rfl (rgAt_get hlt)
      have HER : Hid (seE l k = if (rgAt l k).t ≤ (rgAt l k).f then 2 else if 0 < k ∧ (rgAt l k).f ≤ (rgAt l (k - 1)).t then 19 else 0) := Lib.hid rfl
      have HIT := Lib.hid (fun e (h : seE l k = e) (he : e ≠ 0) => (by rw [CH1.out, HM.out, fstE_hit hlt (by rw [h]; exact he), h] : ch = (e, k)))
      have MIS := Lib.hid (fun (h : seE l k = 0) => HM.out.trans (fstE_miss hlt h))
      have hki : (k : Int) < l.length := by omega
      have hk0 : (0 : Int) ≤ k := by omega
      have d0 := (HB.out.cell (p := ⟨bt, ot + k * 2, none⟩) hbt).trans p0
      have d1 := (HB.out.cell (p := ⟨bt, ot + k * 2 + 1, none⟩) hbt).trans p1
      have hty : bt < wy.heap.size := by have := HB.out.size; omega
      have hne : ¬ bt = wy.heap.size := by omega
      have dprev : ∀ j, j < l.length → ∀ y, rgAt l j = y → wy.cell? ⟨bt, ot + j * 2 + 1, none⟩ = some (.int .u64 y.t) := fun j hj y hy => by
        obtain ⟨b2, o2, e2, _, p0, p1⟩ := reads_rg HR.out rfl (rgAt_get hj)
        cases e2
        rw [hy] at p1
        exact (HB.out.cell (p := ⟨bt, ot + j * 2 + 1, none⟩) hbt).trans p1
      obtain ⟨x, hx⟩ : ∃ x, rgAt l k = x := ⟨_, rfl⟩
      rw [hx] at d0 d1 HER
      clear hx p0 p1
      by_cases c1 : x.f ≥ x.t
      · have R := Lib.hid (HIT.out 2 (HER.out.trans (if_pos c1)) (by decide))
        clear dprev
        go_wp2_with fail
        go_ret2
        exact ⟨by rw [R.out]; rfl, bal HB.out _⟩
      have NER := Lib.hid (HER.out.trans (if_neg c1))
      by_cases c0 : k = 0
      · have M2 := Lib.hid (MIS.out (NER.out.trans (if_neg (fun c => by omega))))
        subst c0
        simp only [Nat.zero_mul, Nat.add_zero] at d0 d1
        clear dprev
        go_upto_region 8 with fail
        go_quiet (fail)
        go_wp2_with fail
        go_roundw
        case rel => exact ⟨0 + 1, by omega, by go_num, M2.out, below_drewN (bal HB.out _) _⟩
        case measure => simp [intOf]; omega
      · obtain ⟨m, rfl⟩ : ∃ m, k = m + 1 := ⟨k - 1, by omega⟩
        have q1 := dprev m (by omega) _ rfl
        obtain ⟨y, hy⟩ : ∃ y, rgAt l m = y := ⟨_, rfl⟩
        rw [Nat.add_sub_cancel, hy] at NER
        rw [hy] at q1
        have hm1 : ((m + 1 : Nat) : Int) > 0 := by omega
        have WM : IntKind.i64.wrap (((m + 1 : Nat) : Int) - 1) = (m : Int) := by rw [show ((m + 1 : Nat) : Int) - 1 = m by omega]; exact IntWalk.i64_in _ (by omega)
        have hmi : (m : Int) < l.length := by omega
        have hm0 : (0 : Int) ≤ m := by omega
        clear hy dprev
        by_cases c3 : x.f ≤ y.t
        · have R := Lib.hid (HIT.out 19 (NER.out.trans (if_pos ⟨by omega, c3⟩)) (by decide))
          go_upto_region 8 with fail
          go_quiet (fail)
          go_wp2_with fail
          go_ret2
          exact ⟨by rw [R.out]; rfl, below_drewN (bal HB.out _) _⟩
        · have M2 := Lib.hid (MIS.out (NER.out.trans (if_neg (fun c => c3 c.2))))
          go_upto_region 8 with fail
          go_quiet (fail)
          go_wp2_with fail
          go_roundw
          case rel => exact ⟨m + 1 + 1, by omega, by go_num, M2.out, below_drewN (bal HB.out _) _⟩
          case measure => simp [intOf]; omega
    · obtain rfl : k = l.length := by omega
      have R : Hid (ch = (0, 0)) := Lib.hid (by rw [CH1.out, HM.out, fstE_end])
      go_wp2_with fail
      go_ret2
      exact ⟨by rw [R.out]; rfl, HB.out⟩

set_option maxRecDepth 100000 in
set_option maxHeartbeats 4000000 in
theorem setSize_ok (z : Rec) (hz : OkR z) (hf : 0 ≤ z.fl) (hr : 0 ≤ z.r) (v : Value) (w : World) (h : RgsAt w v z.tk) : Calls Try.prog 120 #[v] w (Ret2 .u64 .i64 (szs z.tk z.tk.length) 0 w) := by
  have HC := Lib.hid (setCheck_any z.tk v w h)
  rw [setE_ok hz] at HC
  have hb : ∀ k, k < z.tk.length → 0 ≤ szs z.tk k ∧ 0 ≤ (rgAt z.tk k).t - (rgAt z.tk k).f ∧ szs z.tk k + ((rgAt z.tk k).t - (rgAt z.tk k).f) ≤ 1125899906842624 ∧ (rgAt z.tk k).t - (rgAt z.tk k).f ≤ 1125899906842624 := fun k hk => by
    have h1 := szs_le hz k (by omega)
    have h2 := szs_le hz (k + 1) (by omega)
    have h3 : szs z.tk (k + 1) = szs z.tk k + ((rgAt z.tk k).t - (rgAt z.tk k).f) := rfl
    have h4 := endK_le hz (k := k + 1) (by omega)
    have h5 := hz.t k hk
    have h6 := hz.g
    have h7 := hz.r
    omega
  have HBD := Lib.hid hb
  have hl := hz.nt
  obtain ⟨l, hl'⟩ : ∃ l, z.tk = l := ⟨_, rfl⟩
  rw [hl'] at h hl HBD ⊢
  clear hb hl' hz hf hr
  obtain ⟨A, c, rfl, _, hca, hR⟩ := id h
  have HR := Lib.hid hR
  clear h hR
  go_enter Try.func120, Try.ntmps120
  go_wp2_with fail
  refine HC.out.mono ?_
  rintro e w1 ⟨rfl, hb1⟩
  have HB1 := Lib.hid hb1
  clear hb1 HC
  go_wp2_with fail
  go_loopw [6, 19] (fun s6 s wr => ∃ k : Nat, k ≤ l.length ∧ s = .int .i64 k ∧ s6 = .int .u64 (szs l k) ∧ Below w.heap.size w wr) (fun _ s _ => l.length - (intOf s).toNat)
  case atStart => exact ⟨0, by omega, rfl, rfl, HB1.out⟩
  case round =>
    obtain ⟨k, hk, rfl, rfl, hB⟩ := hrel
    obtain ⟨wy, rfl⟩ : ∃ wy : World, wy = wr := ⟨_, rfl⟩
    have HB := Lib.hid hB
    clear hB
    by_cases hlt : k < l.length
    · obtain ⟨bt, ot, rfl, hbt, p0, p1⟩ := reads_rg HR.out rfl (rgAt_get hlt)
      have d0 := (HB.out.cell (p := ⟨bt, ot + k * 2, none⟩) hbt).trans p0
      have d1 := (HB.out.cell (p := ⟨bt, ot + k * 2 + 1, none⟩) hbt).trans p1
      have hty : bt < wy.heap.size := by have := HB.out.size; omega
      have hne : ¬ bt = wy.heap.size := by omega
      obtain ⟨e1, e2, e3, e4⟩ := HBD.out k hlt
      have HS : Hid (szs l (k + 1) = szs l k + ((rgAt l k).t - (rgAt l k).f)) := Lib.hid rfl
      obtain ⟨x, hx⟩ : ∃ x, rgAt l k = x := ⟨_, rfl⟩
      obtain ⟨s, hs⟩ : ∃ s, szs l k = s := ⟨_, rfl⟩
      rw [hx] at d0 d1 HS e2 e3 e4
      rw [hs] at HS e1 e3 ⊢
      have W1 : IntKind.u64.wrap (x.t - x.f) = x.t - x.f := IntWalk.u64_in _ (by omega)
      have W2 : IntKind.u64.wrap (s + (x.t - x.f)) = s + (x.t - x.f) := IntWalk.u64_in _ (by omega)
      have hki : (k : Int) < l.length := by omega
      have hk0 : (0 : Int) ≤ k := by omega
      clear hx hs p0 p1
      go_wp2_with fail
      go_roundw
      case rel => exact ⟨k + 1, by omega, by go_num, by rw [HS.out], bal HB.out _⟩
      case measure => simp [intOf]; omega
    · obtain rfl : k = l.length := by omega
      go_wp2_with fail
      go_ret2
      exact ⟨rfl, HB.out⟩
end Go.Proofs.Ytfgkkflbpfocjaa

namespace Go.Proofs.Ytfgkkflbpfocjaa
open Go.RowKit
set_option linter.unusedVariables false
set_option linter.unusedSimpArgs false

def opnR (z : Rec) : Rec := if okR z then z else zRec
/-- an opened ledger -/
def RetOpn (y : Rec) (er : Int) (w : World) (e : Ending) (w' : World) : Prop := ∃ A c C d, e = .returned (.tuple #[.agg #[.int .u64 y.g, .int .u64 y.r, .int .u64 y.fl, .slice A y.tk.length c, .slice C y.kp.length d], .int .i64 er]) ∧ RgsB (w.heap.size + 2) w' (.slice A y.tk.length c) y.tk ∧ KpsB (w.heap.size + 2) w' (.slice C y.kp.length d) y.kp ∧ Below w.heap.size w w'

set_option maxRecDepth 100000 in
set_option maxHeartbeats 8000000 in
theorem openedR_ok (z : Rec) (hw : WfR z) (hk : okR z) (vt vk : Value) (w : World) (ht : RgsAt w vt z.tk) (hkp : KpsAt w vk z.kp) :
    Calls Try.prog 108 #[.agg #[.int .u64 z.g, .int .u64 z.r, .int .u64 z.fl, vt, vk]] w (RetOpn z 0 w) := by
  have HW := Lib.hid hw
  have hO := okR_of hk
  have htl := hO.nt
  have hkl := hO.nk
  have HC : Hid (∀ vt vk w, RgsAt w vt z.tk → KpsAt w vk z.kp → Calls Try.prog 61 #[.agg #[.int .u64 z.g, .int .u64 z.r, .int .u64 z.fl, vt, vk]] w (Ret2 .i64 .i64 0 ((chkR z).2 : Int) w)) := Lib.hid (fun vt vk w h1 h2 => by
    have := vCheck_any z hw vt vk w h1 h2
    rw [show (chkR z).1 = 0 from hk] at this
    exact this)
  obtain ⟨A, c, rfl⟩ := ht.form
  obtain ⟨C, d, rfl⟩ := hkp.form
  have HT := Lib.hid ht
  have HK := Lib.hid hkp
  obtain ⟨a, b, f, T, K⟩ := z
  dsimp only at *
  clear ht hkp hw hk hO
  obtain ⟨e2, he2⟩ : ∃ e2 : Int, (((chkR ⟨a, b, f, T, K⟩).2 : Nat) : Int) = e2 := ⟨_, rfl⟩
  rw [he2] at HC
  clear he2
  go_enter Try.func108, Try.ntmps108
  go_wp2_with fail
  have k0 := (Blk.new w 29 #[.int .u64 a, .int .u64 b, .int .u64 f, .slice A T.length c, .slice C K.length d]).alloc (.cells #[.int .u64 0, .int .u64 0, .int .u64 0, .slice none 0 0, .slice none 0 0] 29)
  have k1 := Blk.new1 w (.cells #[.int .u64 a, .int .u64 b, .int .u64 f, .slice A T.length c, .slice C K.length d] 29) 29 #[.int .u64 0, .int .u64 0, .int .u64 0, .slice none 0 0, .slice none 0 0]
  have hB := bal (bal (Below.refl w.heap.size w) (.cells #[.int .u64 a, .int .u64 b, .int .u64 f, .slice A T.length c, .slice C K.length d] 29)) (.cells #[.int .u64 0, .int .u64 0, .int .u64 0, .slice none 0 0, .slice none 0 0] 29)
  refine (HC.out _ _ _ (HT.out.below hB) (HK.out.below hB)).mono ?_
  rintro e w1 ⟨rfl, hb1⟩
  have kk : BK2 w w.heap.size 29 #[.int .u64 a, .int .u64 b, .int .u64 f, .slice A T.length c, .slice C K.length d] (w.heap.size + 1) 29 #[.int .u64 0, .int .u64 0, .int .u64 0, .slice none 0 0, .slice none 0 0] w1 := ⟨k0.below hb1, k1.below hb1, bnext hB hb1⟩
  clear k0 k1 hB hb1 HC
  obtain ⟨g0, hg0⟩ : ∃ g0, w.heap.size = g0 := ⟨_, rfl⟩
  have HG0 := Lib.hid hg0
  rw [hg0] at kk ⊢
  clear hg0
  obtain ⟨x0, x1, x2, x3, x4⟩ := kk.b.c5
  obtain ⟨f0, f1, f2, f3, f4⟩ := kk.b.f5
  have hl0 := kk.b.lt
  have hl1 := kk.c.lt
  have KK := Lib.hid kk
  clear kk
  have CT : Hid (∀ wv, BK2 w g0 29 #[.int .u64 a, .int .u64 b, .int .u64 f, .slice A T.length c, .slice C K.length d] (g0 + 1) 29 #[.int .u64 0, .int .u64 0, .int .u64 0, .slice none 0 0, .slice none 0 0] wv → Calls Try.prog 93 #[.slice A T.length c] wv (RetRgs T wv)) := Lib.hid (fun wv h => CloneR_any T _ wv (HT.out.below h.hB) (by omega))
  have CK : Hid (∀ wv, BK2 w g0 29 #[.int .u64 a, .int .u64 b, .int .u64 f, .slice A T.length c, .slice C K.length d] (g0 + 1) 29 #[.int .u64 0, .int .u64 0, .int .u64 0, .slice none 0 0, .slice none 0 0] wv → Calls Try.prog 94 #[.slice C K.length d] wv (RetKps K wv)) := Lib.hid (fun wv h => CloneK_any K _ wv (HK.out.below h.hB) (by omega))
  go_upto_region 4 with fail
  go_cut [] (fun wx => ∃ A' c' C' d', Blk wx g0 29 #[.int .u64 a, .int .u64 b, .int .u64 f, .slice A' T.length c', .slice C' K.length d'] ∧ Blk wx (g0 + 1) 29 #[.int .u64 0, .int .u64 0, .int .u64 0, .slice none 0 0, .slice none 0 0] ∧ RgsB (g0 + 2) wx (.slice A' T.length c') T ∧ KpsB (g0 + 2) wx (.slice C' K.length d') K ∧ Below w.heap.size w wx)
  case first =>
    go_region_with (first
      | (go_at_call 93; refine (CT.out _ (by (repeat (first | with_reducible exact KK.out | with_reducible refine BK2.drew ?_)))).mono ?_; rintro e wn ⟨At, ct, rfl, hr, hbn⟩; have K' : BK2 w g0 29 #[.int .u64 a, .int .u64 b, .int .u64 f, .slice A T.length c, .slice C K.length d] (g0 + 1) 29 #[.int .u64 0, .int .u64 0, .int .u64 0, .slice none 0 0, .slice none 0 0] wn := (by refine BK2.below ?_ hbn; (repeat (first | with_reducible exact KK.out | with_reducible refine BK2.drew ?_))); have RT := Lib.hid (RowB.low hr (B' := g0 + 2) (show g0 + 2 ≤ _ from KK.out.c.lt)); (try (have RK' := Lib.hid (RowB.below (by (repeat (first | with_reducible exact RK.out | with_reducible refine RowB.drew ?_))) hbn); clear RK; have RK := RK')); clear KK x0 x1 x2 x3 x4 hl0 hl1 f0 f1 f2 f3 f4; have KK := Lib.hid K'; obtain ⟨x0, x1, x2, x3, x4⟩ := K'.b.c5; obtain ⟨f0, f1, f2, f3, f4⟩ := K'.b.f5; have hl0 := K'.b.lt; have hl1 := K'.c.lt; clear K' hbn hr)
      | (go_at_call 94; refine (CK.out _ (by (repeat (first | with_reducible exact KK.out | with_reducible refine BK2.drew ?_)))).mono ?_; rintro e wn ⟨Ak, ck, rfl, hr, hbn⟩; have K' : BK2 w g0 29 #[.int .u64 a, .int .u64 b, .int .u64 f, .slice A T.length c, .slice C K.length d] (g0 + 1) 29 #[.int .u64 0, .int .u64 0, .int .u64 0, .slice none 0 0, .slice none 0 0] wn := (by refine BK2.below ?_ hbn; (repeat (first | with_reducible exact KK.out | with_reducible refine BK2.drew ?_))); have RK := Lib.hid (RowB.low hr (B' := g0 + 2) (show g0 + 2 ≤ _ from KK.out.c.lt)); (try (have RT' := Lib.hid (RowB.below (by (repeat (first | with_reducible exact RT.out | with_reducible refine RowB.drew ?_))) hbn); clear RT; have RT := RT')); clear KK x0 x1 x2 x3 x4 hl0 hl1 f0 f1 f2 f3 f4; have KK := Lib.hid K'; obtain ⟨x0, x1, x2, x3, x4⟩ := K'.b.c5; obtain ⟨f0, f1, f2, f3, f4⟩ := K'.b.f5; have hl0 := K'.b.lt; have hl1 := K'.c.lt; clear K' hbn hr))
    all_goals
      go_wp2_with fail
      go_meet
      exact ⟨At, ct, Ak, ck, (KK.out.b.set 3 _).set 4 _, (KK.out.c.far (p := ⟨g0, 3, none⟩) (by show g0 + 1 ≠ g0; omega) _).far (p := ⟨g0, 4, none⟩) (by show g0 + 1 ≠ g0; omega) _, RowB.set (RowB.set RT.out (p := ⟨g0, 3, none⟩) (by show g0 < _; omega) _) (p := ⟨g0, 4, none⟩) (by show g0 < _; omega) _, RowB.set (RowB.set RK.out (p := ⟨g0, 3, none⟩) (by show g0 < _; omega) _) (p := ⟨g0, 4, none⟩) (by show g0 < _; omega) _, bset (bset KK.out.hB (p := ⟨g0, 3, none⟩) (by show _ ≤ g0; rw [HG0.out]; omega) _) (p := ⟨g0, 4, none⟩) (by show _ ≤ g0; rw [HG0.out]; omega) _⟩
  case rest =>
    obtain ⟨At, ct, Ak, ck, kb, kc, rT, rK, hB⟩ := hcut
    have RT := Lib.hid rT
    have RK := Lib.hid rK
    have HB := Lib.hid hB
    clear KK x0 x1 x2 x3 x4 f0 f1 f2 f3 f4 hl0 hl1 rT rK hB CT CK
    obtain ⟨x0, x1, x2, x3, x4⟩ := kb.c5
    obtain ⟨f0, f1, f2, f3, f4⟩ := kb.f5
    obtain ⟨y0, y1, y2, y3, y4⟩ := kc.c5
    obtain ⟨h0, h1, h2, h3, h4⟩ := kc.f5
    have hl0 := kb.lt
    have hl1 := kc.lt
    clear kb kc
    go_wp2_with fail
    refine bodyPost_ret (v := .tuple #[.agg #[.int .u64 a, .int .u64 b, .int .u64 f, .slice At T.length ct, .slice Ak K.length ck], .int .i64 0]) (by simp [results, Try.results108, go_sem, hl1, y0, y1, y2, y3, y4]) rfl ?_
    refine ⟨At, ct, Ak, ck, rfl, ?_, ?_, ?_⟩
    · rw [HG0.out]; repeat (first | with_reducible exact RT.out | with_reducible refine RowB.set ?_ (by show g0 + 1 < _; omega) _)
    · rw [HG0.out]; repeat (first | with_reducible exact RK.out | with_reducible refine RowB.set ?_ (by show g0 + 1 < _; omega) _)
    · repeat (first | with_reducible exact HB.out | with_reducible refine bset ?_ (by show _ ≤ g0 + 1; rw [HG0.out]; omega) _)

set_option maxRecDepth 100000 in
set_option maxHeartbeats 4000000 in
theorem openedR_no (z : Rec) (hw : WfR z) (hk : ¬ okR z) (vt vk : Value) (w : World) (ht : RgsAt w vt z.tk) (hkp : KpsAt w vk z.kp) :
    Calls Try.prog 108 #[.agg #[.int .u64 z.g, .int .u64 z.r, .int .u64 z.fl, vt, vk]] w (RetOpn zRec (chkR z).1 w) := by
  obtain ⟨e1, he1⟩ : ∃ e1 : Int, (chkR z).1 = e1 := ⟨_, rfl⟩
  obtain ⟨e2, he2⟩ : ∃ e2 : Int, (((chkR z).2 : Nat) : Int) = e2 := ⟨_, rfl⟩
  have hne : (e1 != 0) = true := by rw [bne_iff_ne, ← he1]; exact hk
  have HC : Hid (∀ vt vk w, RgsAt w vt z.tk → KpsAt w vk z.kp → Calls Try.prog 61 #[.agg #[.int .u64 z.g, .int .u64 z.r, .int .u64 z.fl, vt, vk]] w (Ret2 .i64 .i64 e1 e2 w)) := Lib.hid (fun vt vk w h1 h2 => by
    have := vCheck_any z hw vt vk w h1 h2
    rw [he1, he2] at this
    exact this)
  rw [he1]
  obtain ⟨A, c, rfl⟩ := ht.form
  obtain ⟨C, d, rfl⟩ := hkp.form
  have HT := Lib.hid ht
  have HK := Lib.hid hkp
  obtain ⟨a, b, f, T, K⟩ := z
  dsimp only at *
  clear ht hkp hw hk he1 he2
  go_enter Try.func108, Try.ntmps108
  go_wp2_with fail
  have k1 := Blk.new1 w (.cells #[.int .u64 a, .int .u64 b, .int .u64 f, .slice A T.length c, .slice C K.length d] 29) 29 #[.int .u64 0, .int .u64 0, .int .u64 0, .slice none 0 0, .slice none 0 0]
  have hB := bal (bal (Below.refl w.heap.size w) (.cells #[.int .u64 a, .int .u64 b, .int .u64 f, .slice A T.length c, .slice C K.length d] 29)) (.cells #[.int .u64 0, .int .u64 0, .int .u64 0, .slice none 0 0, .slice none 0 0] 29)
  refine (HC.out _ _ _ (HT.out.below hB) (HK.out.below hB)).mono ?_
  rintro e w1 ⟨rfl, hb1⟩
  have kc := k1.below hb1
  have HB := Lib.hid (bnext hB hb1)
  clear hb1 k1 HC hB
  obtain ⟨y0, y1, y2, y3, y4⟩ := kc.c5
  obtain ⟨h0, h1, h2, h3, h4⟩ := kc.f5
  have hl1 := kc.lt
  clear kc
  go_wp2_with fail
  refine bodyPost_ret (v := .tuple #[.agg #[.int .u64 0, .int .u64 0, .int .u64 0, .slice none 0 0, .slice none 0 0], .int .i64 e1]) (by simp [results, Try.results108, go_sem, hl1, y0, y1, y2, y3, y4]) rfl ?_
  refine ⟨none, 0, none, 0, rfl, RowB.nil _ _ _, RowB.nil _ _ _, ?_⟩
  repeat (first | with_reducible exact HB.out | with_reducible refine bset ?_ (by show w.heap.size ≤ w.heap.size + 1; omega) _)

theorem openedR_any (z : Rec) (hw : WfR z) (vt vk : Value) (w : World) (ht : RgsAt w vt z.tk) (hkp : KpsAt w vk z.kp) :
    Calls Try.prog 108 #[.agg #[.int .u64 z.g, .int .u64 z.r, .int .u64 z.fl, vt, vk]] w (RetOpn (opnR z) (chkR z).1 w) := by
  by_cases h : okR z
  · unfold opnR
    rw [if_pos h, show (chkR z).1 = 0 from h]
    exact openedR_ok z hw h vt vk w ht hkp
  · unfold opnR
    rw [if_neg h]
    exact openedR_no z hw h vt vk w ht hkp

theorem okZ : OkR zRec := ⟨by decide, by decide, by decide, by decide, by decide, fun i h => absurd h (by show ¬ i < 0; omega)⟩
theorem opnR_ok (z : Rec) (hw : WfR z) : OkR (opnR z) ∧ WfR (opnR z) := by
  unfold opnR
  by_cases h : okR z
  · rw [if_pos h]; exact ⟨okR_of h, hw⟩
  · rw [if_neg h]
    exact ⟨okZ, ⟨by decide, by decide, by decide, fun x hx => (by cases hx), fun x hx => (by cases hx)⟩⟩

set_option maxRecDepth 100000 in
set_option maxHeartbeats 4000000 in
theorem reserved_any (z : Rec) (hz : OkR z) (hw : WfR z) (vt vk : Value) (w : World) (ht : RgsAt w vt z.tk) (hk : ∃ A l c, vk = .slice A l c) :
    Calls Try.prog 110 #[.agg #[.int .u64 z.g, .int .u64 z.r, .int .u64 z.fl, vt, vk]] w (RetI .u64 (resv z) w) := by
  have h1 := hz.g
  have h2 := hz.r
  have h3 := hz.fl
  have h4 := hw.r.1
  have h5 := hw.fl.1
  have h6 := szs_le hz z.tk.length (Nat.le_refl _)
  have h7 := endK_le hz (k := z.tk.length) (Nat.le_refl _)
  have SZ := Lib.hid (fun v w h => setSize_ok z hz h5 h4 v w h)
  have HR : Hid (resv z = z.g - z.r - z.fl - szs z.tk z.tk.length) := Lib.hid rfl
  obtain ⟨n, hn⟩ : ∃ n, szs z.tk z.tk.length = n := ⟨_, rfl⟩
  rw [hn] at SZ HR h6
  obtain ⟨m, hm⟩ : ∃ m, endK z z.tk.length = m := ⟨_, rfl⟩
  rw [hm] at h6 h7
  obtain ⟨A, c, rfl⟩ := ht.form
  obtain ⟨C, l, d, rfl⟩ := hk
  have HT := Lib.hid ht
  obtain ⟨a, b, f, T, K⟩ := z
  dsimp only at *
  have RM := Lib.hid (fun w => room_any a b f (.slice A T.length c) (.slice C l d) w h4 h2 (by omega) ⟨_, _, _, rfl⟩ ⟨_, _, _, rfl⟩)
  have W1 : IntKind.u64.wrap (a - b - f) = a - b - f := IntWalk.u64_in _ (by omega)
  have W2 : IntKind.u64.wrap (a - b - f - n) = a - b - f - n := IntWalk.u64_in _ (by omega)
  clear hz hw ht hn hm
  go_enter Try.func110, Try.ntmps110
  go_wp2_with fail
  have k0 := Blk.new w 29 #[.int .u64 a, .int .u64 b, .int .u64 f, .slice A T.length c, .slice C l d]
  have hB := bal (Below.refl w.heap.size w) (.cells #[.int .u64 a, .int .u64 b, .int .u64 f, .slice A T.length c, .slice C l d] 29)
  refine (SZ.out _ _ (HT.out.below hB)).mono ?_
  rintro e w1 ⟨rfl, hb1⟩
  have kk : BK w w.heap.size 29 #[.int .u64 a, .int .u64 b, .int .u64 f, .slice A T.length c, .slice C l d] w1 := ⟨k0.below hb1, bnext hB hb1⟩
  clear k0 hB hb1 SZ
  obtain ⟨g0, hg0⟩ : ∃ g0, w.heap.size = g0 := ⟨_, rfl⟩
  rw [hg0] at kk ⊢
  clear hg0
  obtain ⟨x0, x1, x2, x3, x4⟩ := kk.b.c5
  have hl0 := kk.b.lt
  have KK := Lib.hid kk
  clear kk
  go_upto_region 2 with fail
  go_region_with (go_at_call 103; refine (RM.out _).mono ?_; rintro e wn ⟨rfl, hbn⟩; have K' : BK w g0 29 #[.int .u64 a, .int .u64 b, .int .u64 f, .slice A T.length c, .slice C l d] wn := (by refine BK.below ?_ hbn; (repeat (first | with_reducible exact KK.out | with_reducible refine BK.drew ?_))); clear KK x0 x1 x2 x3 x4 hl0; have KK := Lib.hid K'; obtain ⟨x0, x1, x2, x3, x4⟩ := K'.b.c5; have hl0 := K'.b.lt; clear K' hbn)
  all_goals
    go_wp2_with fail
    go_ret
    exact ⟨ret_int HR.out.symm, KK.out.hB⟩

/-- what is reserved, or the error -/
def rsvE (z : Rec) : Int × Int := (resv (opnR z), (chkR z).1)
set_option maxRecDepth 100000 in
set_option maxHeartbeats 4000000 in
theorem Reserved_any (z : Rec) (hw : WfR z) (vt vk : Value) (w : World) (ht : RgsAt w vt z.tk) (hkp : KpsAt w vk z.kp) :
    Calls Try.prog 78 #[.agg #[.int .u64 z.g, .int .u64 z.r, .int .u64 z.fl, vt, vk]] w (Ret2 .u64 .i64 (resv (opnR z)) (chkR z).1 w) := by
  obtain ⟨ho, hwo⟩ := opnR_ok z hw
  have HO := Lib.hid (fun vt vk w h1 h2 => openedR_any z hw vt vk w h1 h2)
  have RS := Lib.hid (fun vt vk w h1 h2 => reserved_any (opnR z) ho hwo vt vk w h1 h2)
  obtain ⟨y, hy⟩ : ∃ y, opnR z = y := ⟨_, rfl⟩
  obtain ⟨e1, he1⟩ : ∃ e1 : Int, (chkR z).1 = e1 := ⟨_, rfl⟩
  obtain ⟨rv, hrv⟩ : ∃ rv, resv (opnR z) = rv := ⟨_, rfl⟩
  rw [hrv] at RS
  rw [hy] at HO RS
  rw [he1] at HO
  rw [hrv, he1]
  obtain ⟨A, c, rfl⟩ := ht.form
  obtain ⟨C, d, rfl⟩ := hkp.form
  have HT := Lib.hid ht
  have HK := Lib.hid hkp
  obtain ⟨a, b, f, T, K⟩ := z
  obtain ⟨a', b', f', T', K'⟩ := y
  dsimp only at *
  clear ht hkp hw he1 hy hrv ho hwo
  go_enter Try.func78, Try.ntmps78
  go_wp2_with fail
  have k0 := Blk.new w 29 #[.int .u64 a, .int .u64 b, .int .u64 f, .slice A T.length c, .slice C K.length d]
  have hB := bal (Below.refl w.heap.size w) (.cells #[.int .u64 a, .int .u64 b, .int .u64 f, .slice A T.length c, .slice C K.length d] 29)
  refine (HO.out _ _ _ (HT.out.below hB) (HK.out.below hB)).mono ?_
  rintro e w1 ⟨At, ct, Ak, ck, rfl, hrT, hrK, hb1⟩
  have kb := k0.below hb1
  have HB := Lib.hid (bnext hB hb1)
  have hz0 := hB.size
  rw [World.size_alloc] at hrT hrK
  have RT := Lib.hid hrT
  clear hb1 k0 HO hB hrT hrK HT HK
  obtain ⟨x0, x1, x2, x3, x4⟩ := kb.c5
  obtain ⟨f0, f1, f2, f3, f4⟩ := kb.f5
  have hl0 := kb.lt
  clear kb
  go_wp2_with fail
  refine (RS.out _ _ _ ?_ ⟨_, _, _, rfl⟩).mono ?_
  · refine RowB.at (B := w.heap.size + 1 + 2) ?_
    repeat (first | with_reducible exact RT.out | with_reducible refine RowB.set ?_ (by show w.heap.size < _; omega) _)
  rintro e w2 ⟨rfl, hb2⟩
  have hB2 : Below w.heap.size w w2 := bnext (by repeat (first | with_reducible exact HB.out | with_reducible refine bset ?_ (Nat.le_refl _) _)) hb2
  clear hb2
  go_wp2_with fail
  go_ret2
  exact ⟨rfl, hB2⟩
end Go.Proofs.Ytfgkkflbpfocjaa

namespace Go.Proofs.Ytfgkkflbpfocjaa
open Go.RowKit
set_option linter.unusedVariables false
set_option linter.unusedSimpArgs false

theorem run_eql_rg (a b c d : Int) (w : World) : (binOp .eql 74 (.agg #[.int .u64 a, .int .u64 b]) (.agg #[.int .u64 c, .int .u64 d])).run Try.prog w = .ok (.bool (a == c && b == d)) w := by
  go_simp
  by_cases h1 : a = c <;> by_cases h2 : b = d <;> simp [h1, h2]
/-- the state of a range of a valid ledger -/
def lokE (z : Rec) (off size : Int) : Int × Int := if size = 0 then (0, 2) else if z.g - z.r < off ∨ z.g - z.r - off < size then (0, 14) else (stOf (cons z off size z.tk.length) size, 0)

set_option maxRecDepth 100000 in
set_option maxHeartbeats 16000000 in
theorem look_any (z : Rec) (hz : OkR z) (hw : WfR z) (off size : Int) (ho : 0 ≤ off ∧ off ≤ 18446744073709551615) (hs : 0 ≤ size ∧ size ≤ 18446744073709551615) (vt vk : Value) (w : World) (ht : RgsAt w vt z.tk) (hk : ∃ A l c, vk = .slice A l c) :
    Calls Try.prog 109 #[.agg #[.int .u64 z.g, .int .u64 z.r, .int .u64 z.fl, vt, vk], .int .u64 off, .int .u64 size] w (Ret2 .i64 .i64 (lokE z off size).1 (lokE z off size).2 w) := by
  have h1 := hz.g
  have h2 := hz.r
  have h3 := hz.fl
  have h4 := hw.r.1
  have h5 := hw.fl.1
  have hn := hz.nt
  obtain ⟨lk, hlk⟩ : ∃ lk, lokE z off size = lk := ⟨_, rfl⟩
  have LK : Hid (lk = if size = 0 then (0, 2) else if z.g - z.r < off ∨ z.g - z.r - off < size then (0, 14) else (stOf (cons z off size z.tk.length) size, 0)) := Lib.hid (by rw [← hlk]; rfl)
  have HZ := Lib.hid hz
  rw [hlk]
  have CW : Hid (∀ k, 0 < size → k < z.tk.length → (rgAt z.tk k).f ≤ off → off + size ≤ (rgAt z.tk k).t → cons z off size z.tk.length = size) := Lib.hid (fun k hs hk a b => cons_whole hz hs hk a b)
  have CB : Hid (∀ k, 0 < size → k ≤ z.tk.length → 0 ≤ cons z off size k ∧ cons z off size k ≤ size) := Lib.hid (fun k hs hk => cons_le hz hs hk)
  have CS : Hid (∀ k, cons z off size (k + 1) = cons z off size k + ov off (off + size) (rgAt z.tk k)) := Lib.hid (fun k => rfl)
  have C0 : Hid (cons z off size 0 = flv z off size) := Lib.hid rfl
  have TT : Hid (∀ k, k < z.tk.length → (rgAt z.tk k).f < (rgAt z.tk k).t ∧ 0 ≤ (rgAt z.tk k).f ∧ (rgAt z.tk k).t ≤ 1125899906842624) := Lib.hid (fun k hk => by have := hz.t k hk; omega)
  obtain ⟨A, c, rfl⟩ := ht.form
  obtain ⟨C, l, d, rfl⟩ := hk
  have HT := Lib.hid ht
  obtain ⟨_, _, e, _, hcc, hRt⟩ := id ht
  cases e
  unfold maxLen at hcc
  have HRt := Lib.hid hRt
  obtain ⟨cf, hcf⟩ : ∃ cf, cons z off size = cf := ⟨_, rfl⟩
  rw [hcf] at LK CW CB CS C0
  have FL : Hid (flv z off size = if off < z.fl then min (z.fl - off) size else 0) := Lib.hid rfl
  obtain ⟨fv, hfv⟩ : ∃ fv, flv z off size = fv := ⟨_, rfl⟩
  rw [hfv] at C0 FL
  obtain ⟨a, b, f, T, K⟩ := z
  dsimp only at *
  clear hz hw ht hRt hlk hcf hfv HZ
  by_cases hs0 : size = 0
  · have R := Lib.hid (LK.out.trans (if_pos hs0))
    subst hs0
    go_enter Try.func109, Try.ntmps109
    go_wp2_with fail
    go_ret2
    exact ⟨by rw [R.out]; rfl, (by repeat (first | with_reducible exact Below.refl _ _ | with_reducible refine Below.drew ?_ | with_reducible refine below_drewN ?_ _ | with_reducible refine bal ?_ _ | with_reducible refine bset ?_ (by first | (simp; done) | (simp; omega)) _ | with_reducible refine bnext ?_ (by assumption) | with_reducible assumption))⟩
  have LK1 := Lib.hid (LK.out.trans (if_neg hs0))
  have hsz : (size == 0) = false := beq_eq_false_iff_ne.2 hs0
  have hs1 : 0 < size := by omega
  clear LK
  have RM := Lib.hid (fun w => room_any a b f (.slice A T.length c) (.slice C l d) w h4 h2 (by omega) ⟨_, _, _, rfl⟩ ⟨_, _, _, rfl⟩)
  obtain ⟨rm, hrm⟩ : ∃ rm, a - b = rm := ⟨_, rfl⟩
  rw [hrm] at RM LK1
  have hrm0 : 0 ≤ rm ∧ rm ≤ 1125899906842624 ∧ f ≤ rm := by omega
  clear hrm hs0
  go_enter Try.func109, Try.ntmps109
  go_wp2_with fail
  have k0 := Blk.new w 29 #[.int .u64 a, .int .u64 b, .int .u64 f, .slice A T.length c, .slice C l d]
  have hB := bal (Below.refl w.heap.size w) (.cells #[.int .u64 a, .int .u64 b, .int .u64 f, .slice A T.length c, .slice C l d] 29)
  refine (RM.out _).mono ?_
  rintro e w1 ⟨rfl, hb1⟩
  have kk : BK w w.heap.size 29 #[.int .u64 a, .int .u64 b, .int .u64 f, .slice A T.length c, .slice C l d] w1 := ⟨k0.below hb1, bnext hB hb1⟩
  clear k0 hB hb1
  obtain ⟨g0, hg0⟩ : ∃ g0, w.heap.size = g0 := ⟨_, rfl⟩
  have HG0 := Lib.hid hg0
  rw [hg0] at kk ⊢
  clear hg0
  obtain ⟨x0, x1, x2, x3, x4⟩ := kk.b.c5
  have hl0 := kk.b.lt
  have KK := Lib.hid kk
  clear kk
  by_cases q1 : off > rm
  · have R := Lib.hid (LK1.out.trans (if_pos (.inl q1)))
    go_wp2_with fail
    go_ret2
    exact ⟨by rw [R.out]; rfl, KK.out.hB⟩
  have WR : IntKind.u64.wrap (rm - off) = rm - off := IntWalk.u64_in _ (by omega)
  go_wp2_with fail
  refine (RM.out _).mono ?_
  rintro e w2 ⟨rfl, hb2⟩
  have kk := KK.out.below hb2
  clear KK hb2 x0 x1 x2 x3 x4 hl0 RM
  obtain ⟨x0, x1, x2, x3, x4⟩ := kk.b.c5
  have hl0 := kk.b.lt
  have KK := Lib.hid kk
  clear kk
  by_cases q2 : size > rm - off
  · have R := Lib.hid (LK1.out.trans (if_pos (.inr q2)))
    go_wp2_with fail
    go_ret2
    exact ⟨by rw [R.out]; rfl, KK.out.hB⟩
  have LK2 := Lib.hid (LK1.out.trans (if_neg (fun c => by omega)))
  obtain ⟨hi, hhi⟩ : ∃ hi, off + size = hi := ⟨_, rfl⟩
  rw [hhi] at CW CS
  have hhb : hi ≤ rm ∧ off < hi := by omega
  have WH : IntKind.u64.wrap (off + size) = hi := by rw [hhi]; exact IntWalk.u64_in _ (by omega)
  have HHI := Lib.hid hhi
  clear LK1
  go_upto_region 6 with fail
  have kb := KK.out.b.alloc (.cells #[.int .u64 off, .int .u64 hi] 74)
  have kw := Blk.new w2 74 #[.int .u64 off, .int .u64 hi]
  have hB := bal KK.out.hB (.cells #[.int .u64 off, .int .u64 hi] 74)
  obtain ⟨g8, hg8⟩ : ∃ g8, w2.heap.size = g8 := ⟨_, rfl⟩
  rw [hg8] at kw ⊢
  have kk2 : BK2 w g0 29 #[.int .u64 a, .int .u64 b, .int .u64 f, .slice A T.length c, .slice C l d] g8 74 #[.int .u64 off, .int .u64 hi] (w2.alloc (.cells #[.int .u64 off, .int .u64 hi] 74)) := ⟨kb, kw, hB⟩
  clear kb kw hB hg8 KK x0 x1 x2 x3 x4 hl0
  generalize w2.alloc (.cells #[.int .u64 off, .int .u64 hi] 74) = w3 at kk2 ⊢
  obtain ⟨x0, x1, x2, x3, x4⟩ := kk2.b.c5
  obtain ⟨y0, y1⟩ := kk2.c.c2
  have hl0 := kk2.b.lt
  have hl1 := kk2.c.lt
  go_upto_if 37 with fail
  go_cut [9] (fun s wx => s = .int .u64 fv ∧ wx = w3)
  case first =>
    clear kk2
    by_cases c1 : off < f
    · have c1d : decide (off < f) = true := decide_eq_true c1
      by_cases c2 : hi < f
      · have W1 : IntKind.u64.wrap (hi - off) = hi - off := IntWalk.u64_in _ (by omega)
        have R : Hid (fv = hi - off) := Lib.hid (by rw [FL.out, if_pos c1]; have := HHI.out; omega)
        go_wp2_with fail
        go_meet
        exact ⟨by rw [R.out], rfl⟩
      · have W1 : IntKind.u64.wrap (f - off) = f - off := IntWalk.u64_in _ (by omega)
        have R : Hid (fv = f - off) := Lib.hid (by rw [FL.out, if_pos c1]; have := HHI.out; omega)
        go_wp2_with fail
        go_meet
        exact ⟨by rw [R.out], rfl⟩
    · have c1d : decide (off < f) = false := decide_eq_false c1
      have R : Hid (fv = 0) := Lib.hid (by rw [FL.out, if_neg c1])
      go_wp2_with fail
      go_meet
      exact ⟨by rw [R.out], rfl⟩
  case rest =>
    obtain ⟨rfl, rfl⟩ := hcut
    rw [← C0.out]
    have K3 := Lib.hid kk2
    clear kk2
    go_wp2_with fail
    clear x0 x1 x2 x3 x4
    go_loopw [9, 48] (fun s9 s wr => ∃ k : Nat, k ≤ T.length ∧ s = .int .i64 k ∧ s9 = .int .u64 (cf k) ∧ BK2 w g0 29 #[.int .u64 a, .int .u64 b, .int .u64 f, .slice A T.length c, .slice C l d] g8 74 #[.int .u64 off, .int .u64 hi] wr) (fun _ s _ => T.length - (intOf s).toNat)
    case atStart => exact ⟨0, by omega, rfl, rfl, K3.out⟩
    case round =>
      obtain ⟨k, hk, rfl, rfl, kb⟩ := hrel
      obtain ⟨wy, rfl⟩ : ∃ wy : World, wy = wr := ⟨_, rfl⟩
      have KB := Lib.hid kb
      clear K3
      obtain ⟨x0, x1, x2, x3, x4⟩ := kb.b.c5
      obtain ⟨y0, y1⟩ := kb.c.c2
      have hgy := kb.b.lt
      have hgy2 := kb.c.lt
      clear kb
      obtain ⟨u1, u2⟩ := CB.out k hs1 hk
      by_cases hlt : k < T.length
      · obtain ⟨bt, ot, rfl, hbt, p0, p1⟩ := reads_rg HRt.out rfl (rgAt_get hlt)
        have d0 := (KB.out.hB.cell (p := ⟨bt, ot + k * 2, none⟩) hbt).trans p0
        have d1 := (KB.out.hB.cell (p := ⟨bt, ot + k * 2 + 1, none⟩) hbt).trans p1
        have hty : bt < wy.heap.size := by have := KB.out.hB.size; omega
        have hne : ¬ bt = wy.heap.size := by omega
        have hne2 : ¬ bt = wy.heap.size + 1 := by omega
        have hne3 : ¬ g8 = wy.heap.size := by omega
        have hne4 : ¬ g8 = wy.heap.size + 1 := by omega
        have hne5 : ¬ g0 = wy.heap.size := by omega
        have hne6 : ¬ g0 = wy.heap.size + 1 := by omega
        obtain ⟨t1, t2, t3⟩ := TT.out k hlt
        have CWk := Lib.hid (CW.out k hs1 hlt)
        have CSk := Lib.hid (CS.out k)
        obtain ⟨v1, v2⟩ := CB.out (k + 1) hs1 hlt
        have OV : Hid (ov off hi (rgAt T k) = if max (rgAt T k).f off < min (rgAt T k).t hi then min (rgAt T k).t hi - max (rgAt T k).f off else 0) := Lib.hid rfl
        have hki : (k : Int) < T.length := by omega
        have hk0 : (0 : Int) ≤ k := by omega
        have OLD := Lib.hid (fun (h : cf T.length = size) => (by rw [LK2.out, h]; unfold stOf; rw [if_pos rfl] : lk = (1, 0)))
        obtain ⟨x, hx⟩ : ∃ x, rgAt T k = x := ⟨_, rfl⟩
        rw [hx] at d0 d1 CWk CSk OV t1 t2 t3
        obtain ⟨oo, hoo⟩ : ∃ oo, ov off hi x = oo := ⟨_, rfl⟩
        rw [hoo] at CSk OV
        obtain ⟨c0, hc0⟩ : ∃ c0, cf k = c0 := ⟨_, rfl⟩
        rw [hc0] at CSk u1 u2 ⊢
        obtain ⟨c1, hc1⟩ : ∃ c1, cf (k + 1) = c1 := ⟨_, rfl⟩
        rw [hc1] at CSk v1 v2
        have HC1 := Lib.hid hc1
        have he := run_eql_rg
        clear hx p0 p1 hoo hc0 hc1
        by_cases m1 : x.f < off
        · by_cases m2 : hi < x.t
          · skip
            have R := Lib.hid (OLD.out (CWk.out (by omega) (by have := HHI.out; omega)))
            go_wp2_with fail
            go_ret2
            exact ⟨by rw [R.out]; rfl, bal (bal KB.out.hB _) _⟩
          · by_cases m3 : x.t = hi
            · have m4 : ¬ x.t < hi := by omega
              have R := Lib.hid (OLD.out (CWk.out (by omega) (by have := HHI.out; omega)))
              have b1 : (x.t == hi) = true := by simp; omega
              go_wp2_with fail
              go_ret2
              exact ⟨by rw [R.out]; rfl, bal (bal KB.out.hB _) _⟩
            · by_cases m4 : off < x.t
              · skip
                have E : Hid (oo = x.t - off) := Lib.hid (by rw [OV.out, if_pos (by omega)]; omega)
                have N1 : Hid (c1 = c0 + (x.t - off)) := Lib.hid (by rw [CSk.out, E.out])
                have hN1 := N1.out
                have W1 : IntKind.u64.wrap (x.t - off) = x.t - off := IntWalk.u64_in _ (by omega)
                have W2 : IntKind.u64.wrap (c0 + (x.t - off)) = c0 + (x.t - off) := IntWalk.u64_in _ (by omega)
                clear hN1
                have b1 : (x.t == hi) = false := beq_eq_false_iff_ne.2 (by omega)
                go_wp2_with fail
                go_roundw
                case rel => exact ⟨k + 1, by omega, by go_num, by rw [HC1.out, N1.out], (KB.out.b.alloc _).alloc _, (KB.out.c.alloc _).alloc _, bal (bal KB.out.hB _) _⟩
                case measure => simp [intOf]; omega
              · skip
                have E : Hid (oo = 0) := Lib.hid (by rw [OV.out, if_neg (by omega)])
                have N1 : Hid (c1 = c0) := Lib.hid (by rw [CSk.out, E.out, Int.add_zero])
                have b1 : (x.t == hi) = false := beq_eq_false_iff_ne.2 (by omega)
                go_wp2_with fail
                go_roundw
                case rel => exact ⟨k + 1, by omega, by go_num, by rw [HC1.out, N1.out], (KB.out.b.alloc _).alloc _, (KB.out.c.alloc _).alloc _, bal (bal KB.out.hB _) _⟩
                case measure => simp [intOf]; omega
        · by_cases m2 : hi < x.t
          · by_cases m3 : x.f = off
            · skip
              have R := Lib.hid (OLD.out (CWk.out (by omega) (by have := HHI.out; omega)))
              have b1 : (x.f == off) = true := by simp; omega
              go_wp2_with fail
              go_ret2
              exact ⟨by rw [R.out]; rfl, bal (bal KB.out.hB _) _⟩
            · by_cases m4 : x.f < hi
              · skip
                have E : Hid (oo = hi - x.f) := Lib.hid (by rw [OV.out, if_pos (by omega)]; omega)
                have N1 : Hid (c1 = c0 + (hi - x.f)) := Lib.hid (by rw [CSk.out, E.out])
                have hN1 := N1.out
                have W1 : IntKind.u64.wrap (hi - x.f) = hi - x.f := IntWalk.u64_in _ (by omega)
                have W2 : IntKind.u64.wrap (c0 + (hi - x.f)) = c0 + (hi - x.f) := IntWalk.u64_in _ (by omega)
                clear hN1
                have b1 : (x.f == off) = false := beq_eq_false_iff_ne.2 (by omega)
                go_wp2_with fail
                go_roundw
                case rel => exact ⟨k + 1, by omega, by go_num, by rw [HC1.out, N1.out], (KB.out.b.alloc _).alloc _, (KB.out.c.alloc _).alloc _, bal (bal KB.out.hB _) _⟩
                case measure => simp [intOf]; omega
              · skip
                have E : Hid (oo = 0) := Lib.hid (by rw [OV.out, if_neg (by omega)])
                have N1 : Hid (c1 = c0) := Lib.hid (by rw [CSk.out, E.out, Int.add_zero])
                have b1 : (x.f == off) = false := beq_eq_false_iff_ne.2 (by omega)
                go_wp2_with fail
                go_roundw
                case rel => exact ⟨k + 1, by omega, by go_num, by rw [HC1.out, N1.out], (KB.out.b.alloc _).alloc _, (KB.out.c.alloc _).alloc _, bal (bal KB.out.hB _) _⟩
                case measure => simp [intOf]; omega
          · by_cases m3 : x.f = off
            · by_cases m4 : x.t = hi
              · skip
                have R := Lib.hid (OLD.out (CWk.out (by omega) (by have := HHI.out; omega)))
                have b1 : (x.f == off) = true := by simp; omega
                have b2 : (x.t == hi) = true := by simp; omega
                go_wp2_with fail
                go_ret2
                exact ⟨by rw [R.out]; rfl, bal (bal KB.out.hB _) _⟩
              · skip
                have E : Hid (oo = x.t - x.f) := Lib.hid (by rw [OV.out, if_pos (by omega)]; omega)
                have N1 : Hid (c1 = c0 + (x.t - x.f)) := Lib.hid (by rw [CSk.out, E.out])
                have hN1 := N1.out
                have W1 : IntKind.u64.wrap (x.t - x.f) = x.t - x.f := IntWalk.u64_in _ (by omega)
                have W2 : IntKind.u64.wrap (c0 + (x.t - x.f)) = c0 + (x.t - x.f) := IntWalk.u64_in _ (by omega)
                clear hN1
                have b1 : (x.f == off) = true := by simp; omega
                have b2 : (x.t == hi) = false := beq_eq_false_iff_ne.2 (by omega)
                have M3 := Lib.hid m3
                clear m3
                go_wp2_with fail
                go_roundw
                case rel => exact ⟨k + 1, by omega, by go_num, by rw [HC1.out, N1.out], (KB.out.b.alloc _).alloc _, (KB.out.c.alloc _).alloc _, bal (bal KB.out.hB _) _⟩
                case measure => simp [intOf]; omega
            · skip
              have E : Hid (oo = x.t - x.f) := Lib.hid (by rw [OV.out, if_pos (by omega)]; omega)
              have N1 : Hid (c1 = c0 + (x.t - x.f)) := Lib.hid (by rw [CSk.out, E.out])
              have hN1 := N1.out
              have W1 : IntKind.u64.wrap (x.t - x.f) = x.t - x.f := IntWalk.u64_in _ (by omega)
              have W2 : IntKind.u64.wrap (c0 + (x.t - x.f)) = c0 + (x.t - x.f) := IntWalk.u64_in _ (by omega)
              clear hN1
              have b1 : (x.f == off) = false := beq_eq_false_iff_ne.2 (by omega)
              go_wp2_with fail
              go_roundw
              case rel => exact ⟨k + 1, by omega, by go_num, by rw [HC1.out, N1.out], (KB.out.b.alloc _).alloc _, (KB.out.c.alloc _).alloc _, bal (bal KB.out.hB _) _⟩
              case measure => simp [intOf]; omega
      · obtain rfl : k = T.length := by omega
        have R : Hid (lk = (stOf (cf T.length) size, 0)) := LK2
        obtain ⟨cz, hcz⟩ : ∃ cz, cf T.length = cz := ⟨_, rfl⟩
        rw [hcz] at R u1 u2 ⊢
        clear hcz
        by_cases e0 : cz = 0
        · have R2 : Hid (lk = (2, 0)) := Lib.hid (by rw [R.out]; unfold stOf; rw [if_neg (by omega), if_pos e0])
          subst e0
          clear u1 u2
          go_wp2_with fail
          go_ret2
          exact ⟨by rw [R2.out]; rfl, KB.out.hB⟩
        · have e0' : (cz == 0) = false := beq_eq_false_iff_ne.2 e0
          by_cases e1 : cz = size
          · have R2 : Hid (lk = (1, 0)) := Lib.hid (by rw [R.out]; unfold stOf; rw [if_pos e1])
            subst e1
            go_wp2_with fail
            go_ret2
            exact ⟨by rw [R2.out]; rfl, KB.out.hB⟩
          · have e1' : (cz == size) = false := beq_eq_false_iff_ne.2 e1
            have R2 : Hid (lk = (3, 0)) := Lib.hid (by rw [R.out]; unfold stOf; rw [if_neg e1, if_neg e0])
            clear e0 e1
            go_wp2_with fail
            go_ret2
            exact ⟨by rw [R2.out]; rfl, KB.out.hB⟩

theorem stE_lok (z : Rec) (off size : Int) (ho : 0 ≤ off) (hs : 0 ≤ size) (h : okR z) : stE z off size = lokE z off size := by
  unfold stE lokE
  rw [if_neg (fun c => c h)]
  by_cases h0 : size = 0
  · rw [if_pos h0, if_pos h0]
  · rw [if_neg h0, if_neg h0]
    by_cases h1 : z.g - z.r < size ∨ z.g - z.r - size < off
    · rw [if_pos h1, if_pos (by omega)]
    · rw [if_neg h1, if_neg (by omega)]

set_option maxRecDepth 100000 in
set_option maxHeartbeats 4000000 in
theorem State_any (z : Rec) (hw : WfR z) (off size : Int) (ho : 0 ≤ off ∧ off ≤ 18446744073709551615) (hs : 0 ≤ size ∧ size ≤ 18446744073709551615) (vt vk : Value) (w : World) (ht : RgsAt w vt z.tk) (hkp : KpsAt w vk z.kp) :
    Calls Try.prog 77 #[.agg #[.int .u64 z.g, .int .u64 z.r, .int .u64 z.fl, vt, vk], .int .u64 off, .int .u64 size] w (Ret2 .i64 .i64 (stE z off size).1 (stE z off size).2 w) := by
  obtain ⟨hok, hwo⟩ := opnR_ok z hw
  have HO := Lib.hid (fun vt vk w h1 h2 => openedR_any z hw vt vk w h1 h2)
  have LO := Lib.hid (fun vt vk w h1 h2 => look_any (opnR z) hok hwo off size ho hs vt vk w h1 h2)
  obtain ⟨st, hst⟩ : ∃ st, stE z off size = st := ⟨_, rfl⟩
  have R1 : Hid ((chkR z).1 ≠ 0 → st = (0, (chkR z).1)) := Lib.hid (fun h => by rw [← hst]; exact if_pos h)
  have R2 : Hid ((chkR z).1 = 0 → st = lokE (opnR z) off size) := Lib.hid (fun h => by rw [← hst, stE_lok z off size ho.1 hs.1 h]; unfold opnR; rw [if_pos (show okR z from h)])
  obtain ⟨y, hy⟩ : ∃ y, opnR z = y := ⟨_, rfl⟩
  obtain ⟨e1, he1⟩ : ∃ e1 : Int, (chkR z).1 = e1 := ⟨_, rfl⟩
  rw [hy] at HO LO R2
  rw [he1] at HO R1 R2
  rw [hst]
  obtain ⟨A, c, rfl⟩ := ht.form
  obtain ⟨C, d, rfl⟩ := hkp.form
  have HT := Lib.hid ht
  have HK := Lib.hid hkp
  obtain ⟨a, b, f, T, K⟩ := z
  obtain ⟨lk, hlk⟩ : ∃ lk, lokE y off size = lk := ⟨_, rfl⟩
  rw [hlk] at LO R2
  obtain ⟨a', b', f', T', K'⟩ := y
  dsimp only at *
  clear ht hkp hw he1 hy hst hok hwo hlk
  go_enter Try.func77, Try.ntmps77
  go_wp2_with fail
  have k0 := Blk.new w 29 #[.int .u64 a, .int .u64 b, .int .u64 f, .slice A T.length c, .slice C K.length d]
  have hB := bal (Below.refl w.heap.size w) (.cells #[.int .u64 a, .int .u64 b, .int .u64 f, .slice A T.length c, .slice C K.length d] 29)
  refine (HO.out _ _ _ (HT.out.below hB) (HK.out.below hB)).mono ?_
  rintro e w1 ⟨At, ct, Ak, ck, rfl, hrT, hrK, hb1⟩
  have kb := k0.below hb1
  have HB := Lib.hid (bnext hB hb1)
  rw [World.size_alloc] at hrT hrK
  have RT := Lib.hid hrT
  clear hb1 k0 HO hB hrT hrK HT HK
  obtain ⟨x0, x1, x2, x3, x4⟩ := kb.c5
  obtain ⟨f0, f1, f2, f3, f4⟩ := kb.f5
  have hl0 := kb.lt
  clear kb
  by_cases h0 : e1 = 0
  · have R := Lib.hid (R2.out h0)
    subst h0
    go_wp2_with fail
    refine (LO.out _ _ _ ?_ ⟨_, _, _, rfl⟩).mono ?_
    · refine RowB.at (B := w.heap.size + 1 + 2) ?_
      repeat (first | with_reducible exact RT.out | with_reducible refine RowB.set ?_ (by show w.heap.size < _; omega) _)
    rintro e w2 ⟨rfl, hb2⟩
    have hB2 : Below w.heap.size w w2 := bnext (by repeat (first | with_reducible exact HB.out | with_reducible refine bset ?_ (Nat.le_refl _) _)) hb2
    clear hb2
    go_wp2_with fail
    go_ret2
    exact ⟨by rw [R.out]; rfl, hB2⟩
  · have R := Lib.hid (R1.out h0)
    have h0' : (e1 != 0) = true := by simpa using h0
    clear h0
    go_wp2_with fail
    go_ret2
    refine ⟨by rw [R.out]; rfl, ?_⟩
    repeat (first | with_reducible exact HB.out | with_reducible refine bset ?_ (Nat.le_refl _) _)
end Go.Proofs.Ytfgkkflbpfocjaa

