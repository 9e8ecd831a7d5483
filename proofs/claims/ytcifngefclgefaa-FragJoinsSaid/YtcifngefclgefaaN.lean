/- Contracts: the fragments of a message (the program). -/
import Derived.Lib.ConvBytes
import Derived.Test.YtcifngefclgefaaM
namespace Go.Proofs.Ytcifngefclgefaa
open Go.RowKit Go.Shelf
set_option linter.unusedVariables false
set_option linter.unusedSimpArgs false
attribute [local go_sem] Oper.semAt_some

set_option maxHeartbeats 1000000 in
theorem Chunk_in (F : Fence) (n : Nat) (h42 : F.fn 42) (hro : F.round = none) (M s g cap : Nat) (hs : 1 ≤ s) (w : World) :
    CallsIn F n Try.prog 42 #[.slice (some ⟨g, 0, none⟩) M cap, .int .i64 s] w fun e w' => e = .returned (.func (.func 48) #[] #[.pointer (some ⟨w.heap.size, 0, none⟩), .pointer (some ⟨w.heap.size + 1, 0, none⟩)]) ∧ w' = (w.alloc (.cells #[.slice (some ⟨g, 0, none⟩) M cap] 66)).alloc (.cells #[.int .i64 s] 3) := by
  have hmf : ∀ (fn : Fn) (first cap : Array Value) (w : World), (Instr.makeFunc fn first cap).run Try.prog w = .ok (.func fn first cap) w := fun _ _ _ _ => rfl
  have hs1 : ¬ (s : Int) < 1 := by omega
  refine callsIn_of_wp Try.func42 rfl h42 ?_ hro
  simp only [Try.ntmps42, List.size_toArray, List.length_cons, List.length_nil, Nat.reduceAdd, Nat.reduceSub, Array.replicate_succ, Array.replicate_zero, List.push_toArray, List.append_toArray, List.nil_append, List.cons_append]
  gi_wp2
  go_ret
  exact ⟨rfl, rfl⟩

/-- the fragment at a place -/
def frOf (h : Bn) (m : ByteArray) (s o x : Nat) : Bn := { h with off := ((o * s : Nat) : Int), total := m.size, data := m.extract (x * s) (min (x * s + s) m.size) }
def fragsOf (h : Bn) (m : ByteArray) (s : Nat) : List Bn := (List.range ((m.size + s - 1) / s)).map fun j => frOf h m s j j
def frL (h : Bn) (m : ByteArray) (s : Nat) (pre : List (Ck m.size s)) : List Bn := pre.mapIdx fun i x => frOf h m s i x.1
theorem frL_snoc (h : Bn) (m : ByteArray) (s : Nat) (pre : List (Ck m.size s)) (x : Ck m.size s) : frL h m s (pre ++ [x]) = frL h m s pre ++ [frOf h m s pre.length x.1] := by simp [frL, List.mapIdx_append]
theorem frL_len (h : Bn) (m : ByteArray) (s : Nat) (pre : List (Ck m.size s)) : (frL h m s pre).length = pre.length := by simp [frL]
theorem frL_all (h : Bn) (m : ByteArray) (s : Nat) (ys : List (Ck m.size s)) (hy : ys.map (·.1) = List.range ((m.size + s - 1) / s)) : frL h m s ys = fragsOf h m s := by
  have hl : ys.length = (m.size + s - 1) / s := by have := congrArg List.length hy; simpa using this
  unfold frL fragsOf
  apply List.ext_getElem
  · simp [hl]
  · intro i h1 h2
    have hi : i < ys.length := by simpa using h1
    have e : (ys.map (·.1))[i]'(by simpa using hi) = i := by simp only [hy, List.getElem_range]
    rw [List.getElem_mapIdx, List.getElem_map, List.getElem_range]
    rw [List.getElem_map] at e
    rw [e]

theorem boxed_below {W W' : World} {B n : Nat} {t : TypeId} {v : Value} (h : Boxed W B t v) (hb : Below n W W') (hB : B < n) : Boxed W' B t v := (hb.block B hB).trans h
theorem others_below {W W' : World} (h : Below W.heap.size W W') : KeepsOthers W W' := ⟨h.size, fun k o hk _ => (h.block k (Array.getElem?_eq_some_iff.1 hk).1).trans hk⟩
theorem by_T {T0 : Nat → Array Bool → Act → World → Prop} {k : Nat} {L : Array Bool} {a : Act} {w : World} (h : ∀ T : Nat → Array Bool → Act → World → Prop, Hid (∀ k L a w, T k L a w → T0 k L a w) → Hid (∀ k L a w, T0 k L a w → T k L a w) → T k L a w) : T0 k L a w := h T0 (Lib.hid fun _ _ _ _ h => h) (Lib.hid fun _ _ _ _ h => h)
/-- what a round keeps: the blocks below N but B -/
def KpX (B N : Nat) (W W' : World) : Prop := W.heap.size ≤ W'.heap.size ∧ ∀ b, b < N → b ≠ B → W'.heap[b]? = W.heap[b]?
theorem KpX.trans {B N : Nat} {X Y Z : World} (h : KpX B N X Y) (k : KpX B N Y Z) : KpX B N X Z := ⟨Nat.le_trans h.1 k.1, fun b hb hn => (k.2 b hb hn).trans (h.2 b hb hn)⟩
theorem KpX.cell {B N : Nat} {X Y : World} (h : KpX B N X Y) (p : Addr) (hp : p.block < N) (hn : p.block ≠ B) : Y.cell? p = X.cell? p := by
  unfold World.cell?
  rw [h.2 _ hp hn]
theorem KpX.of_below {B N : Nat} {X Y : World} (h : Below N X Y) : KpX B N X Y := ⟨h.size, fun b hb _ => h.block b hb⟩
theorem KpX.put (B N : Nat) (W : World) (l : Nat) (o o' : Obj) (hl : N ≤ l) (hg : W.heap[l]? = some o) : KpX B N W (W.putObj l o') := by
  refine ⟨by simp [World.putObj], fun b hb _ => ?_⟩
  have : l ≠ b := by omega
  simp [World.putObj, this, Array.getElem?_setIfInBounds]
theorem ownFrom_kpx {β : Type} {B N : Nat} {w₀ : World} (hN : N ≤ w₀.heap.size) : OwnFrom N (fun (_ : β) W => KpX B N w₀ W) := fun _ X Y row hs hg hr => ⟨Nat.le_trans hs.1 hg.size, fun b hb hn => by
  have h1 := hs.1
  refine (hg.block b (by omega) fun e => ?_).trans (hs.2 b hb hn)
  have := (hr b e.symm).1
  omega⟩
/-- appending behind a box that lies below the row -/
theorem appended2 {W w1 : World} {N B : Nat} {t e : TypeId} {size : Nat} {v v' : Value} {k m : Nat} {xs ys : List Value} {tmp : Obj} (hv : Boxed W B t v) (hB : B < N) (hN : N ≤ W.heap.size) (hrow : W.ownsRow N e size v k xs) (hown' : w1.ownsRow N e size v' m ys) (hgrow : (W.alloc tmp).grownBy w1 v.ownBlock) :
    Boxed w1 B t v ∧ Boxed (w1.setCell ⟨B, 0, none⟩ v') B t v' ∧ (w1.setCell ⟨B, 0, none⟩ v').ownsRow N e size v' m ys ∧ KeepsOthers W (w1.setCell ⟨B, 0, none⟩ v') ∧ KpX B N W (w1.setCell ⟨B, 0, none⟩ v') ∧ (∀ n₀, n₀ ≤ B → Below n₀ W (w1.setCell ⟨B, 0, none⟩ v')) := by
  have ne1 : some B ≠ v.ownBlock := fun e => by have := (hrow.lt _ e.symm).1; omega
  have ne2 : v'.ownBlock ≠ some B := fun e => by have := (hown'.lt _ e).1; omega
  have hv1 : Boxed w1 B t v := (hv.alloc tmp).kept hgrow ne1
  have hsz : W.heap.size ≤ w1.heap.size := by have := hgrow.size; simp at this; omega
  refine ⟨hv1, hv1.set v', hown'.kept (grownBy_setCell' w1 B v') (.inr ne2), ?_, ?_, fun n₀ hn => ?_⟩
  · refine ((KeepsOthers.alloc W tmp).trans (KeepsOthers.of_grownBy hgrow fun j o ej hj => ?_)).trans (KeepsOthers.setCell _ _ _)
    rcases (hrow.alloc tmp).2 with ⟨rfl, _⟩ | ⟨g, cap, cur, rfl, _, hgb, _⟩
    · simp [Value.ownBlock] at ej
    · obtain rfl : g = j := by simpa [Value.ownBlock] using ej
      rw [hgb] at hj; cases hj; rfl
  · refine ⟨Nat.le_trans hsz (KeepsWalks.setCell w1 _ v').size, fun b hb hn => ?_⟩
    rw [Below.heap_setCell w1 _ v' b hn, hgrow.block b (by simp; omega) (fun e => by have := (hrow.lt _ e.symm).1; omega), Below.heap_alloc W tmp b (by omega)]
  · refine (((Below.refl n₀ W).alloc (by omega) tmp).grown hgrow (by simp; omega) fun j ej => ?_).setCell (p := ⟨B, 0, none⟩) hn v'
    have := (hrow.lt _ ej).1
    omega
theorem infoBn : (Try.prog.info? 26).map (fun i => (i.zero, i.size, i.bytes)) = some (some (.agg #[.int .i64 0, .int .u64 0, .int .i64 0, .int .i64 0, .int .i64 0, .int .i64 0, .int .i64 0, .int .i64 0, .string ⟨#[]⟩]), 9, 80) := by kernel_rfl
theorem ck_conv (m : ByteArray) (s g : Nat) (x : Ck m.size s) (V : World) (h : ∀ j, j < m.size → V.cell? ⟨g, j, none⟩ = some (.int .u8 (m.data.toList.getD j 0).toNat)) :
    (convert 66 9 (ckVal m.size s g x)).run Try.prog V = .ok (.string (m.extract (x.1 * s) (min (x.1 * s + s) m.size))) V := by
  have hx := x.2
  obtain ⟨d, hd⟩ : ∃ d, m.extract (x.1 * s) (min (x.1 * s + s) m.size) = d := ⟨_, rfl⟩
  have hdd : d.data = m.data.extract (x.1 * s) (min (x.1 * s + s) m.size) := by rw [← hd, ByteArray.data_extract]
  have hms : m.data.size = m.size := rfl
  have hl : d.data.toList.length = ckLen m.size s x.1 := by
    rw [Array.length_toList, hdd, Array.size_extract, ckLen, hms]
    omega
  have := run_convert_bytes_back (P := Try.prog) V 66 9 5 ⟨g, x.1 * s, none⟩ (ckLen m.size s x.1) d.data.toList Try.underlying66 Try.underlying5 Try.underlying9 fun j hj => by
    have hj2 : j < ckLen m.size s x.1 := by rw [← hl]; exact hj
    have hj3 : x.1 * s + j < m.size := by unfold ckLen at hj2; omega
    have e : d.data.toList[j] = m.data.toList.getD (x.1 * s + j) 0 := by
      rw [List.getD_eq_getElem?_getD, List.getElem?_eq_getElem (by simpa using hj3)]
      simp [hdd]
    have hc := h (x.1 * s + j) hj3
    rw [← e] at hc
    by_cases hz : j = 0
    · subst hz; simpa [Addr.add] using hc
    · simpa [Addr.add, hz] using hc
  rw [hl] at this
  rw [hd]
  exact this
theorem bytes_below (w : World) (e : TypeId) (s : ByteArray) : Below w.heap.size w (Lib.bytesWorld w e s) := by
  refine ⟨rfl, rfl, rfl, by rw [Lib.bytesWorld_size]; omega, fun j hj => Lib.bytesWorld_at_old w e s j hj⟩

set_option maxRecDepth 100000 in
set_option maxHeartbeats 4000000 in
theorem fragments_own (h : Bn) (m : ByteArray) (s : Nat) (hs : 1 ≤ s ∧ s ≤ 1000) (hM : m.size ≤ 20000) (w : World) :
    Calls Try.prog 33 #[h.val, .string m, .int .i64 s] w fun e w' => ∃ v, e = .returned v ∧ w'.ownsRow w.heap.size 26 9 v (fragsOf h m s).length (fl Bn.cells (fragsOf h m s)) ∧ Below w.heap.size w w' := by
  rw [Bn.val_eq]
  have hcv : ∀ W, (convert 9 66 (.string m)).run Try.prog W = .ok (.slice (some ⟨W.heap.size, 0, none⟩) m.size (grownCap W m.size 0 5)) (Lib.bytesWorld W 5 m) := fun W => Lib.run_convert_string_bytes W 9 66 5 m Try.underlying9 Try.underlying66 Try.underlying5
  have HCV := Lib.hid hcv
  clear hcv
  refine (callsIn_wide (n := 3)).1 ?_
  refine callsIn_of_wp_marks Try.func33 rfl trivial ?_ rfl
  simp only [Try.ntmps33, List.size_toArray, List.length_cons, List.length_nil, Nat.reduceAdd, Nat.reduceSub, Array.replicate_succ, Array.replicate_zero, List.push_toArray, List.append_toArray, List.nil_append, List.cons_append]
  gi_upto_region 2 with fail
  obtain ⟨w4, hw4⟩ : ∃ w4 : World, w4 = (((w.alloc (.cells h.cells.toArray 26)).alloc (.cells #[.string m] 9)).alloc (.cells #[.int .i64 s] 3)).alloc (.cells #[.slice none 0 0] 28) := ⟨_, rfl⟩
  have hz4 : w4.heap.size = w.heap.size + 4 := by rw [hw4]; simp
  have hB4 : Below w.heap.size w w4 := by rw [hw4]; exact bal (bal (bal (bal (Below.refl _ _) _) _) _) _
  have kh : Blk w4 w.heap.size 26 h.cells.toArray := by rw [hw4]; exact (((Blk.new w _ _).alloc _).alloc _).alloc _
  have km : Blk w4 (w.heap.size + 1) 9 #[.string m] := by rw [hw4]; exact ((Blk.new1 w _ _ _).alloc _).alloc _
  have ks : Blk w4 (w.heap.size + 1 + 1) 3 #[.int .i64 s] := by rw [hw4]; exact (Blk.new2 w _ _ _ _).alloc _
  have ko : Boxed w4 (w.heap.size + 1 + 1 + 1) 28 (.slice none 0 0) := by
    have := Boxed.new (((w.alloc (.cells h.cells.toArray 26)).alloc (.cells #[.string m] 9)).alloc (.cells #[.int .i64 s] 3)) 28 (.slice none 0 0)
    rw [World.size_alloc, World.size_alloc, World.size_alloc] at this
    rw [hw4]; exact this
  rw [Bn.cells] at hw4
  rw [← hw4]
  have HW4 := Lib.hid hw4
  clear hw4
  have c1 : w4.cell? ⟨w.heap.size + 1, 0, none⟩ = some (.string m) := by have := km.cell 0; simpa using this
  have c2 : w4.cell? ⟨w.heap.size + 1 + 1, 0, none⟩ = some (.int .i64 s) := by have := ks.cell 0; simpa using this
  have hcv := HCV.out w4
  obtain ⟨cap, hcap⟩ : ∃ cap, grownCap w4 m.size 0 5 = cap := ⟨_, rfl⟩
  have hMc : m.size ≤ cap := by rw [← hcap]; exact grownCap_ge _ _ _ _
  have hcm : cap ≤ 9223372036854775807 := by rw [← hcap]; exact grownCap_le_maxLen _ _ _ _ (by unfold maxLen; omega)
  rw [hcap] at hcv
  obtain ⟨w5, hw5⟩ : ∃ w5, Lib.bytesWorld w4 5 m = w5 := ⟨_, rfl⟩
  have hz5 : w5.heap.size = w4.heap.size + 1 := by rw [← hw5]; exact Lib.bytesWorld_size _ _ _
  have hB5 : Below w4.heap.size w4 w5 := by rw [← hw5]; exact bytes_below _ _ _
  have hby : ∀ j, j < m.size → w5.cell? ⟨w4.heap.size, j, none⟩ = some (.int .u8 (m.data.toList.getD j 0).toNat) := fun j hj => by rw [← hw5]; exact Lib.bytesWorld_cell _ _ _ j hj
  rw [hw5] at hcv
  have c15 := (hB5.cell (p := ⟨w.heap.size + 1, 0, none⟩) (by show w.heap.size + 1 < w4.heap.size; omega)).trans c1
  have c25 := (hB5.cell (p := ⟨w.heap.size + 1 + 1, 0, none⟩) (by show w.heap.size + 1 + 1 < w4.heap.size; omega)).trans c2
  have HBY := Lib.hid hby
  have HB5 := Lib.hid hB5
  have HZ5 := Lib.hid hz5
  have HZ4 := Lib.hid hz4
  clear hcap hw5 hby hB5 hz5 hz4
  gi_wp2_with (first
    | (refine ⟨trivial, ?_⟩; gi_at_call 42; refine (Chunk_in Fence.wide _ trivial rfl _ s _ _ hs.1 _).mono ?_; rintro e w' ⟨rfl, rfl⟩))
  obtain ⟨w6, hw6⟩ : ∃ w6, (w5.alloc (.cells #[.slice (some ⟨w4.heap.size, 0, none⟩) m.size cap] 66)).alloc (.cells #[.int .i64 s] 3) = w6 := ⟨_, rfl⟩
  have hz6 : w6.heap.size = w5.heap.size + 2 := by rw [← hw6]; simp
  have hB6 : Below w5.heap.size w5 w6 := by rw [← hw6]; exact bal (bal (Below.refl _ _) _) _
  have ks1 : Blk w6 w5.heap.size 66 #[.slice (some ⟨w4.heap.size, 0, none⟩) m.size cap] := by rw [← hw6]; exact (Blk.new w5 _ _).alloc _
  have ks2 : Blk w6 (w5.heap.size + 1) 3 #[.int .i64 s] := by rw [← hw6]; exact Blk.new1 w5 _ _ _
  have cs1 : w6.cell? ⟨w5.heap.size, 0, none⟩ = some (.slice (some ⟨w4.heap.size, 0, none⟩) m.size cap) := by have := ks1.cell 0; simpa using this
  have cs2 : w6.cell? ⟨w5.heap.size + 1, 0, none⟩ = some (.int .i64 s) := by have := ks2.cell 0; simpa using this
  rw [hw6]
  have hz4 := HZ4.out
  have hz5 := HZ5.out
  have hB46 : Below w4.heap.size w4 w6 := HB5.out.trans (hB6.mono HB5.out.size)
  have hBw6 : Below w.heap.size w w6 := hB4.trans (hB46.mono hB4.size)
  have ko6 : Boxed w6 (w.heap.size + 1 + 1 + 1) 28 (.slice none 0 0) := boxed_below ko hB46 (by omega)
  have kh6 := kh.below hB46
  have d1 := (hB46.cell (p := ⟨w.heap.size + 1, 0, none⟩) (by show w.heap.size + 1 < w4.heap.size; omega)).trans c1
  have d2 := (hB46.cell (p := ⟨w.heap.size + 1 + 1, 0, none⟩) (by show w.heap.size + 1 + 1 < w4.heap.size; omega)).trans c2
  have hby6 : ∀ j, j < m.size → w6.cell? ⟨w4.heap.size, j, none⟩ = some (.int .u8 (m.data.toList.getD j 0).toNat) := fun j hj => (hB6.cell (p := ⟨w4.heap.size, j, none⟩) (by show w4.heap.size < w5.heap.size; omega)).trans (HBY.out j hj)
  have HBY6 := Lib.hid hby6
  have hKle : (m.size + s - 1) / s ≤ 21000 := Nat.le_trans (Nat.div_le_self _ _) (by omega)
  clear hw6 hby6 c1 c2 c15 c25 hcv HCV HBY HW4
  refine wpIn_rangeFunc_ownG rfl (by omega) (gf := 48) (lb := #[.pointer (some ⟨w5.heap.size, 0, none⟩), .pointer (some ⟨w5.heap.size + 1, 0, none⟩)]) rfl trivial (enters_of Try.func48 (by kernel_rfl) rfl)
    (Kp := KpX (w.heap.size + 1 + 1 + 1) w6.heap.size)
    (chunk_stops Fence.wide _ trivial rfl (by omega) w5.heap.size (w5.heap.size + 1) m.size s w4.heap.size cap hM hs hMc hcm w6 (by omega) (by omega) _ (fun A B hk => hk.cell ⟨w5.heap.size, 0, none⟩ (by show w5.heap.size < _; omega) (by show w5.heap.size ≠ _; omega)) (fun A B hk => hk.cell ⟨w5.heap.size + 1, 0, none⟩ (by show w5.heap.size + 1 < _; omega) (by show w5.heap.size + 1 ≠ _; omega)) cs1 cs2)
    (fun h1 h2 => h1.trans h2) (fun W l o o' hl hg _ _ => KpX.put _ _ W l o o' hl hg) (Below.refl _ _) (fun _ => rfl)
    (fun pre W => (∃ v, Boxed W (w.heap.size + 1 + 1 + 1) 28 v ∧ W.ownsRow w6.heap.size 26 9 v pre.length (fl Bn.cells (frL h m s pre)) ∧ True) ∧ (Below w.heap.size w6 W ∧ KpX (w.heap.size + 1 + 1 + 1) w6.heap.size w6 W))
    (fun _ _ _ => False)
    (OwnFrom.and (Own.from (holdsRow_own w6.heap.size (w.heap.size + 1 + 1 + 1) 28 26 9 (fun pre => pre.length) (fun pre => fl Bn.cells (frL h m s pre)) (fun pre v => True)) _) (OwnFrom.and (ownFrom_below (n₀ := w.heap.size) (B := w6.heap.size) (w₀ := w6) (by omega) (by omega)) (ownFrom_kpx (Nat.le_refl _))))
    (fun _ _ _ _ _ hs _ _ => hs)
    ⟨⟨_, ko6, World.ownsRow_nil _ _ _ _, trivial⟩, Below.refl _ _, Nat.le_refl _, fun _ _ _ => rfl⟩
    (fun x => { tmps := #[.agg #[.int .i64 h.node, .int .u64 h.seq, .int .i64 h.off, .int .i64 h.dest, .int .i64 h.prio, .int .i64 h.born, .int .i64 h.life, .int .i64 h.total, .string h.data], .string m, .int .i64 s, .pointer (some ⟨w.heap.size, 0, none⟩), .pointer (some ⟨w.heap.size + 1, 0, none⟩), .pointer (some ⟨w.heap.size + 1 + 1, 0, none⟩), .slice none 0 0, .pointer (some ⟨w.heap.size + 1 + 1 + 1, 0, none⟩), ckVal m.size s w4.heap.size x, undef, .string m, .slice (some ⟨w4.heap.size, 0, none⟩) m.size cap, .int .i64 s, .func (.func 48) #[] #[.pointer (some ⟨w5.heap.size, 0, none⟩), .pointer (some ⟨w5.heap.size + 1, 0, none⟩)], ckVal m.size s w4.heap.size x, undef, undef, undef, undef, undef, undef, undef, undef, undef, undef, undef, undef, undef, undef, undef, undef, undef, undef], defers := [] }) ?assign ?body ?done ?stop
  case assign =>
    intro l x W K hK
    clear hz4 hz5 hz6
    gi_wp2
    exact hK
  case body =>
    rintro l pre x W ⟨⟨v, hv, hrow, _⟩, hB, hk⟩ hlt
    obtain ⟨A, c, rfl, _⟩ := SlAt.own hrow
    have hkz := hk.1
    have hw46 : w4.heap.size < W.heap.size := by omega
    have hwW : w.heap.size + 1 + 1 + 1 < w6.heap.size := by omega
    have khW : Blk W w.heap.size 26 #[.int .i64 h.node, .int .u64 h.seq, .int .i64 h.off, .int .i64 h.dest, .int .i64 h.prio, .int .i64 h.born, .int .i64 h.life, .int .i64 h.total, .string h.data] := (hk.2 _ (by omega) (by omega)).trans kh6
    have e1 := (hk.cell ⟨w.heap.size + 1, 0, none⟩ (by show w.heap.size + 1 < _; omega) (by show w.heap.size + 1 ≠ _; omega)).trans d1
    have e2 := (hk.cell ⟨w.heap.size + 1 + 1, 0, none⟩ (by show w.heap.size + 1 + 1 < _; omega) (by show w.heap.size + 1 + 1 ≠ _; omega)).trans d2
    have e3 := hv.cell
    have hbW : ∀ j, j < m.size → W.cell? ⟨w4.heap.size, j, none⟩ = some (.int .u8 (m.data.toList.getD j 0).toNat) := fun j hj => (hk.cell ⟨w4.heap.size, j, none⟩ (by show w4.heap.size < _; omega) (by show w4.heap.size ≠ _; omega)).trans (HBY6.out j hj)
    have HBW := Lib.hid hbW
    obtain ⟨x0, x1, x2, x3, x4, x5, x6, x7, x8⟩ := khW.c9
    have hl0 := khW.lt
    clear hbW hz4 hz5 hz6
    gi_upto_region 5 with fail
    obtain ⟨o, ho⟩ : ∃ o : Int, o = ((pre.length * s : Nat) : Int) := ⟨_, rfl⟩
    have hps : pre.length * s ≤ 21000 * 1000 := Nat.mul_le_mul (by omega) hs.2
    have WM : IntKind.i64.wrap ((pre.length : Int) * (s : Int)) = o := by rw [ho, Int.natCast_mul]; exact IntWalk.i64_in _ (by rw [← Int.natCast_mul]; omega)
    obtain ⟨d, hd⟩ : ∃ d : ByteArray, d = m.extract (x.1 * s) (min (x.1 * s + s) m.size) := ⟨_, rfl⟩
    obtain ⟨V0, hV0⟩ : ∃ V0 : World, (W.alloc (.cells #[.int .i64 h.node, .int .u64 h.seq, .int .i64 h.off, .int .i64 h.dest, .int .i64 h.prio, .int .i64 h.born, .int .i64 h.life, .int .i64 h.total, .string h.data] 26)).drew = V0 := ⟨_, rfl⟩
    obtain ⟨V1, hV1⟩ : ∃ V1 : World, V0.setCell ⟨W.heap.size, 2, none⟩ (.int .i64 o) = V1 := ⟨_, rfl⟩
    obtain ⟨V2, hV2⟩ : ∃ V2 : World, V1.setCell ⟨W.heap.size, 7, none⟩ (.int .i64 m.size) = V2 := ⟨_, rfl⟩
    obtain ⟨V3, hV3⟩ : ∃ V3 : World, V2.setCell ⟨W.heap.size, 8, none⟩ (.string d) = V3 := ⟨_, rfl⟩
    have b0 : Blk V0 W.heap.size 26 #[.int .i64 h.node, .int .u64 h.seq, .int .i64 h.off, .int .i64 h.dest, .int .i64 h.prio, .int .i64 h.born, .int .i64 h.life, .int .i64 h.total, .string h.data] := by rw [← hV0]; exact (Blk.new _ _ _).drew
    have b1 : Blk V1 W.heap.size 26 #[.int .i64 h.node, .int .u64 h.seq, .int .i64 o, .int .i64 h.dest, .int .i64 h.prio, .int .i64 h.born, .int .i64 h.life, .int .i64 h.total, .string h.data] := by rw [← hV1]; exact b0.set 2 _
    have b2 : Blk V2 W.heap.size 26 #[.int .i64 h.node, .int .u64 h.seq, .int .i64 o, .int .i64 h.dest, .int .i64 h.prio, .int .i64 h.born, .int .i64 h.life, .int .i64 m.size, .string h.data] := by rw [← hV2]; exact b1.set 7 _
    have b3 : Blk V3 W.heap.size 26 #[.int .i64 h.node, .int .u64 h.seq, .int .i64 o, .int .i64 h.dest, .int .i64 h.prio, .int .i64 h.born, .int .i64 h.life, .int .i64 m.size, .string d] := by rw [← hV3]; exact b2.set 8 _
    have B0 : Below W.heap.size W V0 := by rw [← hV0]; exact (bal (Below.refl _ _) _).drew
    have B1 : Below W.heap.size W V1 := by rw [← hV1]; exact B0.setCell (p := ⟨W.heap.size, 2, none⟩) (Nat.le_refl _) _
    have B2 : Below W.heap.size W V2 := by rw [← hV2]; exact B1.setCell (p := ⟨W.heap.size, 7, none⟩) (Nat.le_refl _) _
    have B3 : Below W.heap.size W V3 := by rw [← hV3]; exact B2.setCell (p := ⟨W.heap.size, 8, none⟩) (Nat.le_refl _) _
    have CV : ∀ V, Below W.heap.size W V → (convert 66 9 (ckVal m.size s w4.heap.size x)).run Try.prog V = .ok (.string d) V := fun V hVb => by
      rw [hd]
      exact ck_conv m s w4.heap.size x V fun j hj => (hVb.cell (p := ⟨w4.heap.size, j, none⟩) hw46).trans (HBW.out j hj)
    refine wpIn_by { tmps := #[.agg #[.int .i64 h.node, .int .u64 h.seq, .int .i64 h.off, .int .i64 h.dest, .int .i64 h.prio, .int .i64 h.born, .int .i64 h.life, .int .i64 h.total, .string h.data], .string m, .int .i64 s, .pointer (some ⟨w.heap.size, 0, none⟩), .pointer (some ⟨w.heap.size + 1, 0, none⟩), .pointer (some ⟨w.heap.size + 1 + 1, 0, none⟩), .slice none 0 0, .pointer (some ⟨w.heap.size + 1 + 1 + 1, 0, none⟩), ckVal m.size s w4.heap.size x, .pointer (some ⟨W.heap.size, 0, none⟩), .string m, .slice (some ⟨w4.heap.size, 0, none⟩) m.size cap, .int .i64 s, .func (.func 48) #[] #[.pointer (some ⟨w5.heap.size, 0, none⟩), .pointer (some ⟨w5.heap.size + 1, 0, none⟩)], ckVal m.size s w4.heap.size x, .agg #[.int .i64 h.node, .int .u64 h.seq, .int .i64 h.off, .int .i64 h.dest, .int .i64 h.prio, .int .i64 h.born, .int .i64 h.life, .int .i64 h.total, .string h.data], .slice A pre.length c, .int .i64 (pre.length : Int), .int .i64 s, .int .i64 o, .string m, .int .i64 m.size, ckVal m.size s w4.heap.size x, .string d, .pointer (some ⟨W.heap.size, 0, none⟩), .pointer (some ⟨W.heap.size, 2, none⟩), .pointer (some ⟨W.heap.size, 7, none⟩), .pointer (some ⟨W.heap.size, 8, none⟩), undef, undef, undef, undef, undef], defers := [] } V3 ?_ (fun Q' hQ' => ?_)
    · have hlo := hv.lt
      have e33 := (B3.cell (p := ⟨w.heap.size + 1 + 1 + 1, 0, none⟩) hlo).trans e3
      have hv3 := boxed_below hv B3 hlo
      have hrow3 := own_below B3 hrow
      have hz3 := B3.size
      obtain ⟨y0, y1, y2, y3, y4, y5, y6, y7, y8⟩ := b3.c9
      have hly := b3.lt
      have hfr : (frOf h m s pre.length x.1).cells = [.int .i64 h.node, .int .u64 h.seq, .int .i64 o, .int .i64 h.dest, .int .i64 h.prio, .int .i64 h.born, .int .i64 h.life, .int .i64 m.size, .string d] := by rw [ho, hd]; rfl
      obtain ⟨i0, hi, hi0, hi1, hi2⟩ := info_parts infoBn
      have hpl : pre.length + 1 ≤ 21001 := by omega
      have HFR := Lib.hid hfr
      have HO := Lib.hid ho
      have HD := Lib.hid hd
      clear hV0 hV1 hV2 hV3 CV hfr ho hd x0 x1 x2 x3 x4 x5 x6 x7 x8 e1 e2 e3
      gi_wp2_with (gi_at_builtin; refine wpListIn_append_own _ rfl _ _ 28 rfl w6.heap.size 26 i0 _ 9 80 Try.underlying28 hi hi0 hi1 hi2 rfl (by decide) _ _ _ rfl (hrow3.alloc _) ⟨V3.heap.size, 0, none⟩ 1 1 [.int .i64 h.node, .int .u64 h.seq, .int .i64 o, .int .i64 h.dest, .int .i64 h.prio, .int .i64 h.born, .int .i64 h.life, .int .i64 m.size, .string d] rfl rfl (fun j u hj => (newadd V3 _ _ j).trans hj) (by simp [Value.oneCell']) (by unfold maxLen; omega) (by omega) (by simp; omega) ?_; intro v' w1' hown' hgrow _; obtain ⟨g', cap', rfl⟩ := ownsRow_succ hown'; obtain ⟨hv1, hv2, hr2, hk2, hkp2, hb2⟩ := appended2 hv3 hwW (by omega) hrow3 hown' hgrow; have hc1 := hv1.cell; have hf1 := hv1.frozen)
      have hB3 : Below w6.heap.size W V3 := B3.mono hkz
      have hr3 : (w1'.setCell ⟨w.heap.size + 1 + 1 + 1, 0, none⟩ (.slice (some ⟨g', 0, none⟩) (pre.length + 1) cap')).ownsRow w6.heap.size 26 9 (.slice (some ⟨g', 0, none⟩) (pre.length + 1) cap') (pre ++ [x]).length (fl Bn.cells (frL h m s (pre ++ [x]))) := by
        rw [frL_snoc, fl_app, fl_one, HFR.out, List.length_append, List.length_singleton]
        exact hr2
      exact ⟨((others_below B3).trans hk2).from _, (KpX.of_below hB3).trans hkp2, ⟨_, hv2, hr3, trivial⟩, hB.trans ((B3.mono (by omega)).trans (hb2 _ (by omega))), hk.trans ((KpX.of_below hB3).trans hkp2)⟩
    · have hlo := hv.lt
      have l1 : w.heap.size + 1 < W.heap.size := by omega
      have l2 : w.heap.size + 1 + 1 < W.heap.size := by omega
      have f7 := (B0.cell (p := ⟨w.heap.size + 1 + 1 + 1, 0, none⟩) hlo).trans e3
      have f5 := (B0.cell (p := ⟨w.heap.size + 1 + 1, 0, none⟩) l2).trans e2
      have f4 := (B0.cell (p := ⟨w.heap.size + 1, 0, none⟩) l1).trans e1
      have g4 := (B1.cell (p := ⟨w.heap.size + 1, 0, none⟩) l1).trans e1
      have v0 := CV V0 B0
      have v1 := CV V1 B1
      have v2 := CV V2 B2
      have y0 := b0.cell 2
      have y1 := b1.cell 7
      have y2 := b2.cell 8
      have z0 := b0.frozen 2
      have z1 := b1.frozen 7
      have z2 := b2.frozen 8
      simp only [List.getElem?_toArray, List.getElem?_cons_succ, List.getElem?_cons_zero] at y0 y1 y2
      obtain ⟨q0, hq0⟩ : ∃ q, Value.agg #[.int .i64 h.node, .int .u64 h.seq, .int .i64 h.off, .int .i64 h.dest, .int .i64 h.prio, .int .i64 h.born, .int .i64 h.life, .int .i64 h.total, .string h.data] = q := ⟨_, rfl⟩
      obtain ⟨q15, hq15⟩ : ∃ q, q = q0 := ⟨_, rfl⟩
      obtain ⟨q11, hq11⟩ : ∃ q, Value.slice (some ⟨w4.heap.size, 0, none⟩) m.size cap = q := ⟨_, rfl⟩
      obtain ⟨q13, hq13⟩ : ∃ q, Value.func (.func 48) #[] #[.pointer (some ⟨w5.heap.size, 0, none⟩), .pointer (some ⟨w5.heap.size + 1, 0, none⟩)] = q := ⟨_, rfl⟩
      subst hq15
      rw [hq0, hq11, hq13] at hQ'
      rw [hq0, hq11, hq13]
      refine wpIn_region_any (by kernel_rfl) ?_
      change wpAnyIn _ _ _ _ _ _ _ _ _ (World.drew _)
      rw [hV0]
      clear hV0 hq0 hq11 hq13 b0 b1 b2 b3 B0 B1 B2 B3 CV hps hd ho e1 e2 e3 HBW hB hk hrow hv x0 x1 x2 x3 x4 x5 x6 x7 x8 khW kh6 ks1 ks2 cs1 cs2 d1 d2 HBY6 HB5 HZ5 HZ4 hB6 ko6 ko km ks kh hB46 hBw6 hB4
      refine by_T (fun T hTi hTo => ?_)
      change T 15 #[false, false, false, false, false, false, false, false, false, false, false, false, false, false, false] _ V0
      have s_0_1_2_3_4_5_6_7_8_9_10_11_12_13_14 : T 0 #[true, true, true, true, true, true, true, true, true, true, true, true, true, true, true] { tmps := #[q15, .string m, .int .i64 s, .pointer (some ⟨w.heap.size, 0, none⟩), .pointer (some ⟨w.heap.size + 1, 0, none⟩), .pointer (some ⟨w.heap.size + 1 + 1, 0, none⟩), .slice none 0 0, .pointer (some ⟨w.heap.size + 1 + 1 + 1, 0, none⟩), ckVal m.size s w4.heap.size x, .pointer (some ⟨W.heap.size, 0, none⟩), .string m, q11, .int .i64 s, q13, ckVal m.size s w4.heap.size x, q15, .slice A pre.length c, .int .i64 (pre.length : Int), .int .i64 s, .int .i64 o, .string m, .int .i64 m.size, ckVal m.size s w4.heap.size x, .string d, .pointer (some ⟨W.heap.size, 0, none⟩), .pointer (some ⟨W.heap.size, 2, none⟩), .pointer (some ⟨W.heap.size, 7, none⟩), .pointer (some ⟨W.heap.size, 8, none⟩), undef, undef, undef, undef, undef], defers := [] } V3 := by
        exact hTo.out _ _ _ _ (wpAnyIn_done (by kernel_rfl) hQ' _)
      have s_0_1_2_3_4_5_6_7_8_9_10_11_12_13 : T 1 #[true, true, true, true, true, true, true, true, true, true, true, true, true, true, false] { tmps := #[q15, .string m, .int .i64 s, .pointer (some ⟨w.heap.size, 0, none⟩), .pointer (some ⟨w.heap.size + 1, 0, none⟩), .pointer (some ⟨w.heap.size + 1 + 1, 0, none⟩), .slice none 0 0, .pointer (some ⟨w.heap.size + 1 + 1 + 1, 0, none⟩), ckVal m.size s w4.heap.size x, .pointer (some ⟨W.heap.size, 0, none⟩), .string m, q11, .int .i64 s, q13, ckVal m.size s w4.heap.size x, q15, .slice A pre.length c, .int .i64 (pre.length : Int), .int .i64 s, .int .i64 o, .string m, .int .i64 m.size, ckVal m.size s w4.heap.size x, .string d, .pointer (some ⟨W.heap.size, 0, none⟩), .pointer (some ⟨W.heap.size, 2, none⟩), .pointer (some ⟨W.heap.size, 7, none⟩), .pointer (some ⟨W.heap.size, 8, none⟩), undef, undef, undef, undef, undef], defers := [] } V2 := by
        refine hTo.out _ _ _ _ (wpAnyIn_ready (rs := [14]) (by kernel_rfl) (by simp) ?_)
        refine AllReadyIn.cons rfl (fun K hK => ?_) ?_
        · go_simp; exact hK _ _ (hTi.out _ _ _ _ s_0_1_2_3_4_5_6_7_8_9_10_11_12_13_14)
        exact AllReadyIn.nil
      have s_0_1_2_3_4_5_6_7_8_9_10_11_12 : T 2 #[true, true, true, true, true, true, true, true, true, true, true, true, true, false, false] { tmps := #[q15, .string m, .int .i64 s, .pointer (some ⟨w.heap.size, 0, none⟩), .pointer (some ⟨w.heap.size + 1, 0, none⟩), .pointer (some ⟨w.heap.size + 1 + 1, 0, none⟩), .slice none 0 0, .pointer (some ⟨w.heap.size + 1 + 1 + 1, 0, none⟩), ckVal m.size s w4.heap.size x, .pointer (some ⟨W.heap.size, 0, none⟩), .string m, q11, .int .i64 s, q13, ckVal m.size s w4.heap.size x, q15, .slice A pre.length c, .int .i64 (pre.length : Int), .int .i64 s, .int .i64 o, .string m, .int .i64 m.size, ckVal m.size s w4.heap.size x, .string d, .pointer (some ⟨W.heap.size, 0, none⟩), .pointer (some ⟨W.heap.size, 2, none⟩), .pointer (some ⟨W.heap.size, 7, none⟩), undef, undef, undef, undef, undef, undef], defers := [] } V2 := by
        refine hTo.out _ _ _ _ (wpAnyIn_ready (rs := [13]) (by kernel_rfl) (by simp) ?_)
        refine AllReadyIn.cons rfl (fun K hK => ?_) ?_
        · go_simp; exact hK _ _ (hTi.out _ _ _ _ s_0_1_2_3_4_5_6_7_8_9_10_11_12_13)
        exact AllReadyIn.nil
      have s_0_1_2_3_4_5_6_7_8_9_10_11 : T 3 #[true, true, true, true, true, true, true, true, true, true, true, true, false, false, false] { tmps := #[q15, .string m, .int .i64 s, .pointer (some ⟨w.heap.size, 0, none⟩), .pointer (some ⟨w.heap.size + 1, 0, none⟩), .pointer (some ⟨w.heap.size + 1 + 1, 0, none⟩), .slice none 0 0, .pointer (some ⟨w.heap.size + 1 + 1 + 1, 0, none⟩), ckVal m.size s w4.heap.size x, .pointer (some ⟨W.heap.size, 0, none⟩), .string m, q11, .int .i64 s, q13, ckVal m.size s w4.heap.size x, q15, .slice A pre.length c, .int .i64 (pre.length : Int), .int .i64 s, .int .i64 o, .string m, .int .i64 m.size, ckVal m.size s w4.heap.size x, .string d, .pointer (some ⟨W.heap.size, 0, none⟩), .pointer (some ⟨W.heap.size, 2, none⟩), .pointer (some ⟨W.heap.size, 7, none⟩), undef, undef, undef, undef, undef, undef], defers := [] } V1 := by
        refine hTo.out _ _ _ _ (wpAnyIn_ready (rs := [12]) (by kernel_rfl) (by simp) ?_)
        refine AllReadyIn.cons rfl (fun K hK => ?_) ?_
        · go_simp; exact hK _ _ (hTi.out _ _ _ _ s_0_1_2_3_4_5_6_7_8_9_10_11_12)
        exact AllReadyIn.nil
      have s_0_1_2_3_4_5_6_8_9_10_11_12 : T 3 #[true, true, true, true, true, true, true, false, true, true, true, true, true, false, false] { tmps := #[q15, .string m, .int .i64 s, .pointer (some ⟨w.heap.size, 0, none⟩), .pointer (some ⟨w.heap.size + 1, 0, none⟩), .pointer (some ⟨w.heap.size + 1 + 1, 0, none⟩), .slice none 0 0, .pointer (some ⟨w.heap.size + 1 + 1 + 1, 0, none⟩), ckVal m.size s w4.heap.size x, .pointer (some ⟨W.heap.size, 0, none⟩), .string m, q11, .int .i64 s, q13, ckVal m.size s w4.heap.size x, q15, .slice A pre.length c, .int .i64 (pre.length : Int), .int .i64 s, .int .i64 o, .string m, .int .i64 m.size, ckVal m.size s w4.heap.size x, undef, .pointer (some ⟨W.heap.size, 0, none⟩), .pointer (some ⟨W.heap.size, 2, none⟩), .pointer (some ⟨W.heap.size, 7, none⟩), undef, undef, undef, undef, undef, undef], defers := [] } V2 := by
        refine hTo.out _ _ _ _ (wpAnyIn_ready (rs := [7]) (by kernel_rfl) (by simp) ?_)
        refine AllReadyIn.cons rfl (fun K hK => ?_) ?_
        · go_simp; exact hK _ _ (hTi.out _ _ _ _ s_0_1_2_3_4_5_6_7_8_9_10_11_12)
        exact AllReadyIn.nil
      have s_0_1_2_3_4_5_6_7_8_9_10 : T 4 #[true, true, true, true, true, true, true, true, true, true, true, false, false, false, false] { tmps := #[q15, .string m, .int .i64 s, .pointer (some ⟨w.heap.size, 0, none⟩), .pointer (some ⟨w.heap.size + 1, 0, none⟩), .pointer (some ⟨w.heap.size + 1 + 1, 0, none⟩), .slice none 0 0, .pointer (some ⟨w.heap.size + 1 + 1 + 1, 0, none⟩), ckVal m.size s w4.heap.size x, .pointer (some ⟨W.heap.size, 0, none⟩), .string m, q11, .int .i64 s, q13, ckVal m.size s w4.heap.size x, q15, .slice A pre.length c, .int .i64 (pre.length : Int), .int .i64 s, .int .i64 o, .string m, .int .i64 m.size, ckVal m.size s w4.heap.size x, .string d, .pointer (some ⟨W.heap.size, 0, none⟩), .pointer (some ⟨W.heap.size, 2, none⟩), undef, undef, undef, undef, undef, undef, undef], defers := [] } V1 := by
        refine hTo.out _ _ _ _ (wpAnyIn_ready (rs := [11]) (by kernel_rfl) (by simp) ?_)
        refine AllReadyIn.cons rfl (fun K hK => ?_) ?_
        · go_simp; exact hK _ _ (hTi.out _ _ _ _ s_0_1_2_3_4_5_6_7_8_9_10_11)
        exact AllReadyIn.nil
      have s_0_1_2_3_4_5_6_8_9_10_11 : T 4 #[true, true, true, true, true, true, true, false, true, true, true, true, false, false, false] { tmps := #[q15, .string m, .int .i64 s, .pointer (some ⟨w.heap.size, 0, none⟩), .pointer (some ⟨w.heap.size + 1, 0, none⟩), .pointer (some ⟨w.heap.size + 1 + 1, 0, none⟩), .slice none 0 0, .pointer (some ⟨w.heap.size + 1 + 1 + 1, 0, none⟩), ckVal m.size s w4.heap.size x, .pointer (some ⟨W.heap.size, 0, none⟩), .string m, q11, .int .i64 s, q13, ckVal m.size s w4.heap.size x, q15, .slice A pre.length c, .int .i64 (pre.length : Int), .int .i64 s, .int .i64 o, .string m, .int .i64 m.size, ckVal m.size s w4.heap.size x, undef, .pointer (some ⟨W.heap.size, 0, none⟩), .pointer (some ⟨W.heap.size, 2, none⟩), .pointer (some ⟨W.heap.size, 7, none⟩), undef, undef, undef, undef, undef, undef], defers := [] } V1 := by
        refine hTo.out _ _ _ _ (wpAnyIn_ready (rs := [7, 12]) (by kernel_rfl) (by simp) ?_)
        refine AllReadyIn.cons rfl (fun K hK => ?_) ?_
        · go_simp; exact hK _ _ (hTi.out _ _ _ _ s_0_1_2_3_4_5_6_7_8_9_10_11)
        refine AllReadyIn.cons rfl (fun K hK => ?_) ?_
        · go_simp; exact hK _ _ (hTi.out _ _ _ _ s_0_1_2_3_4_5_6_8_9_10_11_12)
        exact AllReadyIn.nil
      have s_0_1_2_3_4_5_8_9_10_11_12 : T 4 #[true, true, true, true, true, true, false, false, true, true, true, true, true, false, false] { tmps := #[q15, .string m, .int .i64 s, .pointer (some ⟨w.heap.size, 0, none⟩), .pointer (some ⟨w.heap.size + 1, 0, none⟩), .pointer (some ⟨w.heap.size + 1 + 1, 0, none⟩), .slice none 0 0, .pointer (some ⟨w.heap.size + 1 + 1 + 1, 0, none⟩), ckVal m.size s w4.heap.size x, .pointer (some ⟨W.heap.size, 0, none⟩), .string m, q11, .int .i64 s, q13, ckVal m.size s w4.heap.size x, q15, .slice A pre.length c, .int .i64 (pre.length : Int), .int .i64 s, .int .i64 o, .string m, .int .i64 m.size, undef, undef, .pointer (some ⟨W.heap.size, 0, none⟩), .pointer (some ⟨W.heap.size, 2, none⟩), .pointer (some ⟨W.heap.size, 7, none⟩), undef, undef, undef, undef, undef, undef], defers := [] } V2 := by
        refine hTo.out _ _ _ _ (wpAnyIn_ready (rs := [6]) (by kernel_rfl) (by simp) ?_)
        refine AllReadyIn.cons rfl (fun K hK => ?_) ?_
        · go_simp; exact hK _ _ (hTi.out _ _ _ _ s_0_1_2_3_4_5_6_8_9_10_11_12)
        exact AllReadyIn.nil
      have s_0_1_2_3_4_5_6_7_8_9 : T 5 #[true, true, true, true, true, true, true, true, true, true, false, false, false, false, false] { tmps := #[q15, .string m, .int .i64 s, .pointer (some ⟨w.heap.size, 0, none⟩), .pointer (some ⟨w.heap.size + 1, 0, none⟩), .pointer (some ⟨w.heap.size + 1 + 1, 0, none⟩), .slice none 0 0, .pointer (some ⟨w.heap.size + 1 + 1 + 1, 0, none⟩), ckVal m.size s w4.heap.size x, .pointer (some ⟨W.heap.size, 0, none⟩), .string m, q11, .int .i64 s, q13, ckVal m.size s w4.heap.size x, q15, .slice A pre.length c, .int .i64 (pre.length : Int), .int .i64 s, .int .i64 o, .string m, .int .i64 m.size, ckVal m.size s w4.heap.size x, .string d, .pointer (some ⟨W.heap.size, 0, none⟩), .pointer (some ⟨W.heap.size, 2, none⟩), undef, undef, undef, undef, undef, undef, undef], defers := [] } V0 := by
        refine hTo.out _ _ _ _ (wpAnyIn_ready (rs := [10]) (by kernel_rfl) (by simp) ?_)
        refine AllReadyIn.cons rfl (fun K hK => ?_) ?_
        · go_simp; exact hK _ _ (hTi.out _ _ _ _ s_0_1_2_3_4_5_6_7_8_9_10)
        exact AllReadyIn.nil
      have s_0_1_2_3_4_5_6_8_9_10 : T 5 #[true, true, true, true, true, true, true, false, true, true, true, false, false, false, false] { tmps := #[q15, .string m, .int .i64 s, .pointer (some ⟨w.heap.size, 0, none⟩), .pointer (some ⟨w.heap.size + 1, 0, none⟩), .pointer (some ⟨w.heap.size + 1 + 1, 0, none⟩), .slice none 0 0, .pointer (some ⟨w.heap.size + 1 + 1 + 1, 0, none⟩), ckVal m.size s w4.heap.size x, .pointer (some ⟨W.heap.size, 0, none⟩), .string m, q11, .int .i64 s, q13, ckVal m.size s w4.heap.size x, q15, .slice A pre.length c, .int .i64 (pre.length : Int), .int .i64 s, .int .i64 o, .string m, .int .i64 m.size, ckVal m.size s w4.heap.size x, undef, .pointer (some ⟨W.heap.size, 0, none⟩), .pointer (some ⟨W.heap.size, 2, none⟩), undef, undef, undef, undef, undef, undef, undef], defers := [] } V1 := by
        refine hTo.out _ _ _ _ (wpAnyIn_ready (rs := [7, 11]) (by kernel_rfl) (by simp) ?_)
        refine AllReadyIn.cons rfl (fun K hK => ?_) ?_
        · go_simp; exact hK _ _ (hTi.out _ _ _ _ s_0_1_2_3_4_5_6_7_8_9_10)
        refine AllReadyIn.cons rfl (fun K hK => ?_) ?_
        · go_simp; exact hK _ _ (hTi.out _ _ _ _ s_0_1_2_3_4_5_6_8_9_10_11)
        exact AllReadyIn.nil
      have s_0_1_2_3_4_5_8_9_10_11 : T 5 #[true, true, true, true, true, true, false, false, true, true, true, true, false, false, false] { tmps := #[q15, .string m, .int .i64 s, .pointer (some ⟨w.heap.size, 0, none⟩), .pointer (some ⟨w.heap.size + 1, 0, none⟩), .pointer (some ⟨w.heap.size + 1 + 1, 0, none⟩), .slice none 0 0, .pointer (some ⟨w.heap.size + 1 + 1 + 1, 0, none⟩), ckVal m.size s w4.heap.size x, .pointer (some ⟨W.heap.size, 0, none⟩), .string m, q11, .int .i64 s, q13, ckVal m.size s w4.heap.size x, q15, .slice A pre.length c, .int .i64 (pre.length : Int), .int .i64 s, .int .i64 o, .string m, .int .i64 m.size, undef, undef, .pointer (some ⟨W.heap.size, 0, none⟩), .pointer (some ⟨W.heap.size, 2, none⟩), .pointer (some ⟨W.heap.size, 7, none⟩), undef, undef, undef, undef, undef, undef], defers := [] } V1 := by
        refine hTo.out _ _ _ _ (wpAnyIn_ready (rs := [6, 12]) (by kernel_rfl) (by simp) ?_)
        refine AllReadyIn.cons rfl (fun K hK => ?_) ?_
        · go_simp; exact hK _ _ (hTi.out _ _ _ _ s_0_1_2_3_4_5_6_8_9_10_11)
        refine AllReadyIn.cons rfl (fun K hK => ?_) ?_
        · go_simp; exact hK _ _ (hTi.out _ _ _ _ s_0_1_2_3_4_5_8_9_10_11_12)
        exact AllReadyIn.nil
      have s_0_1_2_3_4_6_7_8_9_10 : T 5 #[true, true, true, true, true, false, true, true, true, true, true, false, false, false, false] { tmps := #[q15, .string m, .int .i64 s, .pointer (some ⟨w.heap.size, 0, none⟩), .pointer (some ⟨w.heap.size + 1, 0, none⟩), .pointer (some ⟨w.heap.size + 1 + 1, 0, none⟩), .slice none 0 0, .pointer (some ⟨w.heap.size + 1 + 1 + 1, 0, none⟩), ckVal m.size s w4.heap.size x, .pointer (some ⟨W.heap.size, 0, none⟩), .string m, q11, .int .i64 s, q13, ckVal m.size s w4.heap.size x, q15, .slice A pre.length c, .int .i64 (pre.length : Int), .int .i64 s, .int .i64 o, .string m, undef, ckVal m.size s w4.heap.size x, .string d, .pointer (some ⟨W.heap.size, 0, none⟩), .pointer (some ⟨W.heap.size, 2, none⟩), undef, undef, undef, undef, undef, undef, undef], defers := [] } V1 := by
        refine hTo.out _ _ _ _ (wpAnyIn_ready (rs := [5]) (by kernel_rfl) (by simp) ?_)
        refine AllReadyIn.cons rfl (fun K hK => ?_) ?_
        · go_simp; exact hK _ _ (hTi.out _ _ _ _ s_0_1_2_3_4_5_6_7_8_9_10)
        exact AllReadyIn.nil
      have s_0_1_2_3_4_5_6_7_8 : T 6 #[true, true, true, true, true, true, true, true, true, false, false, false, false, false, false] { tmps := #[q15, .string m, .int .i64 s, .pointer (some ⟨w.heap.size, 0, none⟩), .pointer (some ⟨w.heap.size + 1, 0, none⟩), .pointer (some ⟨w.heap.size + 1 + 1, 0, none⟩), .slice none 0 0, .pointer (some ⟨w.heap.size + 1 + 1 + 1, 0, none⟩), ckVal m.size s w4.heap.size x, .pointer (some ⟨W.heap.size, 0, none⟩), .string m, q11, .int .i64 s, q13, ckVal m.size s w4.heap.size x, q15, .slice A pre.length c, .int .i64 (pre.length : Int), .int .i64 s, .int .i64 o, .string m, .int .i64 m.size, ckVal m.size s w4.heap.size x, .string d, .pointer (some ⟨W.heap.size, 0, none⟩), undef, undef, undef, undef, undef, undef, undef, undef], defers := [] } V0 := by
        refine hTo.out _ _ _ _ (wpAnyIn_ready (rs := [9]) (by kernel_rfl) (by simp) ?_)
        refine AllReadyIn.cons rfl (fun K hK => ?_) ?_
        · go_simp; exact hK _ _ (hTi.out _ _ _ _ s_0_1_2_3_4_5_6_7_8_9)
        exact AllReadyIn.nil
      have s_0_1_2_3_4_5_6_8_9 : T 6 #[true, true, true, true, true, true, true, false, true, true, false, false, false, false, false] { tmps := #[q15, .string m, .int .i64 s, .pointer (some ⟨w.heap.size, 0, none⟩), .pointer (some ⟨w.heap.size + 1, 0, none⟩), .pointer (some ⟨w.heap.size + 1 + 1, 0, none⟩), .slice none 0 0, .pointer (some ⟨w.heap.size + 1 + 1 + 1, 0, none⟩), ckVal m.size s w4.heap.size x, .pointer (some ⟨W.heap.size, 0, none⟩), .string m, q11, .int .i64 s, q13, ckVal m.size s w4.heap.size x, q15, .slice A pre.length c, .int .i64 (pre.length : Int), .int .i64 s, .int .i64 o, .string m, .int .i64 m.size, ckVal m.size s w4.heap.size x, undef, .pointer (some ⟨W.heap.size, 0, none⟩), .pointer (some ⟨W.heap.size, 2, none⟩), undef, undef, undef, undef, undef, undef, undef], defers := [] } V0 := by
        refine hTo.out _ _ _ _ (wpAnyIn_ready (rs := [7, 10]) (by kernel_rfl) (by simp) ?_)
        refine AllReadyIn.cons rfl (fun K hK => ?_) ?_
        · go_simp; exact hK _ _ (hTi.out _ _ _ _ s_0_1_2_3_4_5_6_7_8_9)
        refine AllReadyIn.cons rfl (fun K hK => ?_) ?_
        · go_simp; exact hK _ _ (hTi.out _ _ _ _ s_0_1_2_3_4_5_6_8_9_10)
        exact AllReadyIn.nil
      have s_0_1_2_3_4_5_8_9_10 : T 6 #[true, true, true, true, true, true, false, false, true, true, true, false, false, false, false] { tmps := #[q15, .string m, .int .i64 s, .pointer (some ⟨w.heap.size, 0, none⟩), .pointer (some ⟨w.heap.size + 1, 0, none⟩), .pointer (some ⟨w.heap.size + 1 + 1, 0, none⟩), .slice none 0 0, .pointer (some ⟨w.heap.size + 1 + 1 + 1, 0, none⟩), ckVal m.size s w4.heap.size x, .pointer (some ⟨W.heap.size, 0, none⟩), .string m, q11, .int .i64 s, q13, ckVal m.size s w4.heap.size x, q15, .slice A pre.length c, .int .i64 (pre.length : Int), .int .i64 s, .int .i64 o, .string m, .int .i64 m.size, undef, undef, .pointer (some ⟨W.heap.size, 0, none⟩), .pointer (some ⟨W.heap.size, 2, none⟩), undef, undef, undef, undef, undef, undef, undef], defers := [] } V1 := by
        refine hTo.out _ _ _ _ (wpAnyIn_ready (rs := [6, 11]) (by kernel_rfl) (by simp) ?_)
        refine AllReadyIn.cons rfl (fun K hK => ?_) ?_
        · go_simp; exact hK _ _ (hTi.out _ _ _ _ s_0_1_2_3_4_5_6_8_9_10)
        refine AllReadyIn.cons rfl (fun K hK => ?_) ?_
        · go_simp; exact hK _ _ (hTi.out _ _ _ _ s_0_1_2_3_4_5_8_9_10_11)
        exact AllReadyIn.nil
      have s_0_1_2_3_4_6_7_8_9 : T 6 #[true, true, true, true, true, false, true, true, true, true, false, false, false, false, false] { tmps := #[q15, .string m, .int .i64 s, .pointer (some ⟨w.heap.size, 0, none⟩), .pointer (some ⟨w.heap.size + 1, 0, none⟩), .pointer (some ⟨w.heap.size + 1 + 1, 0, none⟩), .slice none 0 0, .pointer (some ⟨w.heap.size + 1 + 1 + 1, 0, none⟩), ckVal m.size s w4.heap.size x, .pointer (some ⟨W.heap.size, 0, none⟩), .string m, q11, .int .i64 s, q13, ckVal m.size s w4.heap.size x, q15, .slice A pre.length c, .int .i64 (pre.length : Int), .int .i64 s, .int .i64 o, .string m, undef, ckVal m.size s w4.heap.size x, .string d, .pointer (some ⟨W.heap.size, 0, none⟩), .pointer (some ⟨W.heap.size, 2, none⟩), undef, undef, undef, undef, undef, undef, undef], defers := [] } V0 := by
        refine hTo.out _ _ _ _ (wpAnyIn_ready (rs := [5, 10]) (by kernel_rfl) (by simp) ?_)
        refine AllReadyIn.cons rfl (fun K hK => ?_) ?_
        · go_simp; exact hK _ _ (hTi.out _ _ _ _ s_0_1_2_3_4_5_6_7_8_9)
        refine AllReadyIn.cons rfl (fun K hK => ?_) ?_
        · go_simp; exact hK _ _ (hTi.out _ _ _ _ s_0_1_2_3_4_6_7_8_9_10)
        exact AllReadyIn.nil
      have s_0_1_2_3_4_6_8_9_10 : T 6 #[true, true, true, true, true, false, true, false, true, true, true, false, false, false, false] { tmps := #[q15, .string m, .int .i64 s, .pointer (some ⟨w.heap.size, 0, none⟩), .pointer (some ⟨w.heap.size + 1, 0, none⟩), .pointer (some ⟨w.heap.size + 1 + 1, 0, none⟩), .slice none 0 0, .pointer (some ⟨w.heap.size + 1 + 1 + 1, 0, none⟩), ckVal m.size s w4.heap.size x, .pointer (some ⟨W.heap.size, 0, none⟩), .string m, q11, .int .i64 s, q13, ckVal m.size s w4.heap.size x, q15, .slice A pre.length c, .int .i64 (pre.length : Int), .int .i64 s, .int .i64 o, .string m, undef, ckVal m.size s w4.heap.size x, undef, .pointer (some ⟨W.heap.size, 0, none⟩), .pointer (some ⟨W.heap.size, 2, none⟩), undef, undef, undef, undef, undef, undef, undef], defers := [] } V1 := by
        refine hTo.out _ _ _ _ (wpAnyIn_ready (rs := [5, 7]) (by kernel_rfl) (by simp) ?_)
        refine AllReadyIn.cons rfl (fun K hK => ?_) ?_
        · go_simp; exact hK _ _ (hTi.out _ _ _ _ s_0_1_2_3_4_5_6_8_9_10)
        refine AllReadyIn.cons rfl (fun K hK => ?_) ?_
        · go_simp; exact hK _ _ (hTi.out _ _ _ _ s_0_1_2_3_4_6_7_8_9_10)
        exact AllReadyIn.nil
      have s_0_1_2_3_6_7_8_9_10 : T 6 #[true, true, true, true, false, false, true, true, true, true, true, false, false, false, false] { tmps := #[q15, .string m, .int .i64 s, .pointer (some ⟨w.heap.size, 0, none⟩), .pointer (some ⟨w.heap.size + 1, 0, none⟩), .pointer (some ⟨w.heap.size + 1 + 1, 0, none⟩), .slice none 0 0, .pointer (some ⟨w.heap.size + 1 + 1 + 1, 0, none⟩), ckVal m.size s w4.heap.size x, .pointer (some ⟨W.heap.size, 0, none⟩), .string m, q11, .int .i64 s, q13, ckVal m.size s w4.heap.size x, q15, .slice A pre.length c, .int .i64 (pre.length : Int), .int .i64 s, .int .i64 o, undef, undef, ckVal m.size s w4.heap.size x, .string d, .pointer (some ⟨W.heap.size, 0, none⟩), .pointer (some ⟨W.heap.size, 2, none⟩), undef, undef, undef, undef, undef, undef, undef], defers := [] } V1 := by
        refine hTo.out _ _ _ _ (wpAnyIn_ready (rs := [4]) (by kernel_rfl) (by simp) ?_)
        refine AllReadyIn.cons rfl (fun K hK => ?_) ?_
        · go_simp; exact hK _ _ (hTi.out _ _ _ _ s_0_1_2_3_4_6_7_8_9_10)
        exact AllReadyIn.nil
      have s_0_1_2_3_4_5_6_7 : T 7 #[true, true, true, true, true, true, true, true, false, false, false, false, false, false, false] { tmps := #[q15, .string m, .int .i64 s, .pointer (some ⟨w.heap.size, 0, none⟩), .pointer (some ⟨w.heap.size + 1, 0, none⟩), .pointer (some ⟨w.heap.size + 1 + 1, 0, none⟩), .slice none 0 0, .pointer (some ⟨w.heap.size + 1 + 1 + 1, 0, none⟩), ckVal m.size s w4.heap.size x, .pointer (some ⟨W.heap.size, 0, none⟩), .string m, q11, .int .i64 s, q13, ckVal m.size s w4.heap.size x, q15, .slice A pre.length c, .int .i64 (pre.length : Int), .int .i64 s, .int .i64 o, .string m, .int .i64 m.size, ckVal m.size s w4.heap.size x, .string d, undef, undef, undef, undef, undef, undef, undef, undef, undef], defers := [] } V0 := by
        refine hTo.out _ _ _ _ (wpAnyIn_ready (rs := [8]) (by kernel_rfl) (by simp) ?_)
        refine AllReadyIn.cons rfl (fun K hK => ?_) ?_
        · go_simp; exact hK _ _ (hTi.out _ _ _ _ s_0_1_2_3_4_5_6_7_8)
        exact AllReadyIn.nil
      have s_0_1_2_3_4_5_6_8 : T 7 #[true, true, true, true, true, true, true, false, true, false, false, false, false, false, false] { tmps := #[q15, .string m, .int .i64 s, .pointer (some ⟨w.heap.size, 0, none⟩), .pointer (some ⟨w.heap.size + 1, 0, none⟩), .pointer (some ⟨w.heap.size + 1 + 1, 0, none⟩), .slice none 0 0, .pointer (some ⟨w.heap.size + 1 + 1 + 1, 0, none⟩), ckVal m.size s w4.heap.size x, .pointer (some ⟨W.heap.size, 0, none⟩), .string m, q11, .int .i64 s, q13, ckVal m.size s w4.heap.size x, q15, .slice A pre.length c, .int .i64 (pre.length : Int), .int .i64 s, .int .i64 o, .string m, .int .i64 m.size, ckVal m.size s w4.heap.size x, undef, .pointer (some ⟨W.heap.size, 0, none⟩), undef, undef, undef, undef, undef, undef, undef, undef], defers := [] } V0 := by
        refine hTo.out _ _ _ _ (wpAnyIn_ready (rs := [7, 9]) (by kernel_rfl) (by simp) ?_)
        refine AllReadyIn.cons rfl (fun K hK => ?_) ?_
        · go_simp; exact hK _ _ (hTi.out _ _ _ _ s_0_1_2_3_4_5_6_7_8)
        refine AllReadyIn.cons rfl (fun K hK => ?_) ?_
        · go_simp; exact hK _ _ (hTi.out _ _ _ _ s_0_1_2_3_4_5_6_8_9)
        exact AllReadyIn.nil
      have s_0_1_2_3_4_5_8_9 : T 7 #[true, true, true, true, true, true, false, false, true, true, false, false, false, false, false] { tmps := #[q15, .string m, .int .i64 s, .pointer (some ⟨w.heap.size, 0, none⟩), .pointer (some ⟨w.heap.size + 1, 0, none⟩), .pointer (some ⟨w.heap.size + 1 + 1, 0, none⟩), .slice none 0 0, .pointer (some ⟨w.heap.size + 1 + 1 + 1, 0, none⟩), ckVal m.size s w4.heap.size x, .pointer (some ⟨W.heap.size, 0, none⟩), .string m, q11, .int .i64 s, q13, ckVal m.size s w4.heap.size x, q15, .slice A pre.length c, .int .i64 (pre.length : Int), .int .i64 s, .int .i64 o, .string m, .int .i64 m.size, undef, undef, .pointer (some ⟨W.heap.size, 0, none⟩), .pointer (some ⟨W.heap.size, 2, none⟩), undef, undef, undef, undef, undef, undef, undef], defers := [] } V0 := by
        refine hTo.out _ _ _ _ (wpAnyIn_ready (rs := [6, 10]) (by kernel_rfl) (by simp) ?_)
        refine AllReadyIn.cons rfl (fun K hK => ?_) ?_
        · go_simp; exact hK _ _ (hTi.out _ _ _ _ s_0_1_2_3_4_5_6_8_9)
        refine AllReadyIn.cons rfl (fun K hK => ?_) ?_
        · go_simp; exact hK _ _ (hTi.out _ _ _ _ s_0_1_2_3_4_5_8_9_10)
        exact AllReadyIn.nil
      have s_0_1_2_3_4_6_7_8 : T 7 #[true, true, true, true, true, false, true, true, true, false, false, false, false, false, false] { tmps := #[q15, .string m, .int .i64 s, .pointer (some ⟨w.heap.size, 0, none⟩), .pointer (some ⟨w.heap.size + 1, 0, none⟩), .pointer (some ⟨w.heap.size + 1 + 1, 0, none⟩), .slice none 0 0, .pointer (some ⟨w.heap.size + 1 + 1 + 1, 0, none⟩), ckVal m.size s w4.heap.size x, .pointer (some ⟨W.heap.size, 0, none⟩), .string m, q11, .int .i64 s, q13, ckVal m.size s w4.heap.size x, q15, .slice A pre.length c, .int .i64 (pre.length : Int), .int .i64 s, .int .i64 o, .string m, undef, ckVal m.size s w4.heap.size x, .string d, .pointer (some ⟨W.heap.size, 0, none⟩), undef, undef, undef, undef, undef, undef, undef, undef], defers := [] } V0 := by
        refine hTo.out _ _ _ _ (wpAnyIn_ready (rs := [5, 9]) (by kernel_rfl) (by simp) ?_)
        refine AllReadyIn.cons rfl (fun K hK => ?_) ?_
        · go_simp; exact hK _ _ (hTi.out _ _ _ _ s_0_1_2_3_4_5_6_7_8)
        refine AllReadyIn.cons rfl (fun K hK => ?_) ?_
        · go_simp; exact hK _ _ (hTi.out _ _ _ _ s_0_1_2_3_4_6_7_8_9)
        exact AllReadyIn.nil
      have s_0_1_2_3_4_6_8_9 : T 7 #[true, true, true, true, true, false, true, false, true, true, false, false, false, false, false] { tmps := #[q15, .string m, .int .i64 s, .pointer (some ⟨w.heap.size, 0, none⟩), .pointer (some ⟨w.heap.size + 1, 0, none⟩), .pointer (some ⟨w.heap.size + 1 + 1, 0, none⟩), .slice none 0 0, .pointer (some ⟨w.heap.size + 1 + 1 + 1, 0, none⟩), ckVal m.size s w4.heap.size x, .pointer (some ⟨W.heap.size, 0, none⟩), .string m, q11, .int .i64 s, q13, ckVal m.size s w4.heap.size x, q15, .slice A pre.length c, .int .i64 (pre.length : Int), .int .i64 s, .int .i64 o, .string m, undef, ckVal m.size s w4.heap.size x, undef, .pointer (some ⟨W.heap.size, 0, none⟩), .pointer (some ⟨W.heap.size, 2, none⟩), undef, undef, undef, undef, undef, undef, undef], defers := [] } V0 := by
        refine hTo.out _ _ _ _ (wpAnyIn_ready (rs := [5, 7, 10]) (by kernel_rfl) (by simp) ?_)
        refine AllReadyIn.cons rfl (fun K hK => ?_) ?_
        · go_simp; exact hK _ _ (hTi.out _ _ _ _ s_0_1_2_3_4_5_6_8_9)
        refine AllReadyIn.cons rfl (fun K hK => ?_) ?_
        · go_simp; exact hK _ _ (hTi.out _ _ _ _ s_0_1_2_3_4_6_7_8_9)
        refine AllReadyIn.cons rfl (fun K hK => ?_) ?_
        · go_simp; exact hK _ _ (hTi.out _ _ _ _ s_0_1_2_3_4_6_8_9_10)
        exact AllReadyIn.nil
      have s_0_1_2_3_4_8_9_10 : T 7 #[true, true, true, true, true, false, false, false, true, true, true, false, false, false, false] { tmps := #[q15, .string m, .int .i64 s, .pointer (some ⟨w.heap.size, 0, none⟩), .pointer (some ⟨w.heap.size + 1, 0, none⟩), .pointer (some ⟨w.heap.size + 1 + 1, 0, none⟩), .slice none 0 0, .pointer (some ⟨w.heap.size + 1 + 1 + 1, 0, none⟩), ckVal m.size s w4.heap.size x, .pointer (some ⟨W.heap.size, 0, none⟩), .string m, q11, .int .i64 s, q13, ckVal m.size s w4.heap.size x, q15, .slice A pre.length c, .int .i64 (pre.length : Int), .int .i64 s, .int .i64 o, .string m, undef, undef, undef, .pointer (some ⟨W.heap.size, 0, none⟩), .pointer (some ⟨W.heap.size, 2, none⟩), undef, undef, undef, undef, undef, undef, undef], defers := [] } V1 := by
        refine hTo.out _ _ _ _ (wpAnyIn_ready (rs := [5, 6]) (by kernel_rfl) (by simp) ?_)
        refine AllReadyIn.cons rfl (fun K hK => ?_) ?_
        · go_simp; exact hK _ _ (hTi.out _ _ _ _ s_0_1_2_3_4_5_8_9_10)
        refine AllReadyIn.cons rfl (fun K hK => ?_) ?_
        · go_simp; exact hK _ _ (hTi.out _ _ _ _ s_0_1_2_3_4_6_8_9_10)
        exact AllReadyIn.nil
      have s_0_1_2_3_6_7_8_9 : T 7 #[true, true, true, true, false, false, true, true, true, true, false, false, false, false, false] { tmps := #[q15, .string m, .int .i64 s, .pointer (some ⟨w.heap.size, 0, none⟩), .pointer (some ⟨w.heap.size + 1, 0, none⟩), .pointer (some ⟨w.heap.size + 1 + 1, 0, none⟩), .slice none 0 0, .pointer (some ⟨w.heap.size + 1 + 1 + 1, 0, none⟩), ckVal m.size s w4.heap.size x, .pointer (some ⟨W.heap.size, 0, none⟩), .string m, q11, .int .i64 s, q13, ckVal m.size s w4.heap.size x, q15, .slice A pre.length c, .int .i64 (pre.length : Int), .int .i64 s, .int .i64 o, undef, undef, ckVal m.size s w4.heap.size x, .string d, .pointer (some ⟨W.heap.size, 0, none⟩), .pointer (some ⟨W.heap.size, 2, none⟩), undef, undef, undef, undef, undef, undef, undef], defers := [] } V0 := by
        refine hTo.out _ _ _ _ (wpAnyIn_ready (rs := [4, 10]) (by kernel_rfl) (by simp) ?_)
        refine AllReadyIn.cons rfl (fun K hK => ?_) ?_
        · go_simp; exact hK _ _ (hTi.out _ _ _ _ s_0_1_2_3_4_6_7_8_9)
        refine AllReadyIn.cons rfl (fun K hK => ?_) ?_
        · go_simp; exact hK _ _ (hTi.out _ _ _ _ s_0_1_2_3_6_7_8_9_10)
        exact AllReadyIn.nil
      have s_0_1_2_3_6_8_9_10 : T 7 #[true, true, true, true, false, false, true, false, true, true, true, false, false, false, false] { tmps := #[q15, .string m, .int .i64 s, .pointer (some ⟨w.heap.size, 0, none⟩), .pointer (some ⟨w.heap.size + 1, 0, none⟩), .pointer (some ⟨w.heap.size + 1 + 1, 0, none⟩), .slice none 0 0, .pointer (some ⟨w.heap.size + 1 + 1 + 1, 0, none⟩), ckVal m.size s w4.heap.size x, .pointer (some ⟨W.heap.size, 0, none⟩), .string m, q11, .int .i64 s, q13, ckVal m.size s w4.heap.size x, q15, .slice A pre.length c, .int .i64 (pre.length : Int), .int .i64 s, .int .i64 o, undef, undef, ckVal m.size s w4.heap.size x, undef, .pointer (some ⟨W.heap.size, 0, none⟩), .pointer (some ⟨W.heap.size, 2, none⟩), undef, undef, undef, undef, undef, undef, undef], defers := [] } V1 := by
        refine hTo.out _ _ _ _ (wpAnyIn_ready (rs := [4, 7]) (by kernel_rfl) (by simp) ?_)
        refine AllReadyIn.cons rfl (fun K hK => ?_) ?_
        · go_simp; exact hK _ _ (hTi.out _ _ _ _ s_0_1_2_3_4_6_8_9_10)
        refine AllReadyIn.cons rfl (fun K hK => ?_) ?_
        · go_simp; exact hK _ _ (hTi.out _ _ _ _ s_0_1_2_3_6_7_8_9_10)
        exact AllReadyIn.nil
      have s_0_1_2_3_4_5_6 : T 8 #[true, true, true, true, true, true, true, false, false, false, false, false, false, false, false] { tmps := #[q15, .string m, .int .i64 s, .pointer (some ⟨w.heap.size, 0, none⟩), .pointer (some ⟨w.heap.size + 1, 0, none⟩), .pointer (some ⟨w.heap.size + 1 + 1, 0, none⟩), .slice none 0 0, .pointer (some ⟨w.heap.size + 1 + 1 + 1, 0, none⟩), ckVal m.size s w4.heap.size x, .pointer (some ⟨W.heap.size, 0, none⟩), .string m, q11, .int .i64 s, q13, ckVal m.size s w4.heap.size x, q15, .slice A pre.length c, .int .i64 (pre.length : Int), .int .i64 s, .int .i64 o, .string m, .int .i64 m.size, ckVal m.size s w4.heap.size x, undef, undef, undef, undef, undef, undef, undef, undef, undef, undef], defers := [] } V0 := by
        refine hTo.out _ _ _ _ (wpAnyIn_ready (rs := [7, 8]) (by kernel_rfl) (by simp) ?_)
        refine AllReadyIn.cons rfl (fun K hK => ?_) ?_
        · go_simp; exact hK _ _ (hTi.out _ _ _ _ s_0_1_2_3_4_5_6_7)
        refine AllReadyIn.cons rfl (fun K hK => ?_) ?_
        · go_simp; exact hK _ _ (hTi.out _ _ _ _ s_0_1_2_3_4_5_6_8)
        exact AllReadyIn.nil
      have s_0_1_2_3_4_5_8 : T 8 #[true, true, true, true, true, true, false, false, true, false, false, false, false, false, false] { tmps := #[q15, .string m, .int .i64 s, .pointer (some ⟨w.heap.size, 0, none⟩), .pointer (some ⟨w.heap.size + 1, 0, none⟩), .pointer (some ⟨w.heap.size + 1 + 1, 0, none⟩), .slice none 0 0, .pointer (some ⟨w.heap.size + 1 + 1 + 1, 0, none⟩), ckVal m.size s w4.heap.size x, .pointer (some ⟨W.heap.size, 0, none⟩), .string m, q11, .int .i64 s, q13, ckVal m.size s w4.heap.size x, q15, .slice A pre.length c, .int .i64 (pre.length : Int), .int .i64 s, .int .i64 o, .string m, .int .i64 m.size, undef, undef, .pointer (some ⟨W.heap.size, 0, none⟩), undef, undef, undef, undef, undef, undef, undef, undef], defers := [] } V0 := by
        refine hTo.out _ _ _ _ (wpAnyIn_ready (rs := [6, 9]) (by kernel_rfl) (by simp) ?_)
        refine AllReadyIn.cons rfl (fun K hK => ?_) ?_
        · go_simp; exact hK _ _ (hTi.out _ _ _ _ s_0_1_2_3_4_5_6_8)
        refine AllReadyIn.cons rfl (fun K hK => ?_) ?_
        · go_simp; exact hK _ _ (hTi.out _ _ _ _ s_0_1_2_3_4_5_8_9)
        exact AllReadyIn.nil
      have s_0_1_2_3_4_6_7 : T 8 #[true, true, true, true, true, false, true, true, false, false, false, false, false, false, false] { tmps := #[q15, .string m, .int .i64 s, .pointer (some ⟨w.heap.size, 0, none⟩), .pointer (some ⟨w.heap.size + 1, 0, none⟩), .pointer (some ⟨w.heap.size + 1 + 1, 0, none⟩), .slice none 0 0, .pointer (some ⟨w.heap.size + 1 + 1 + 1, 0, none⟩), ckVal m.size s w4.heap.size x, .pointer (some ⟨W.heap.size, 0, none⟩), .string m, q11, .int .i64 s, q13, ckVal m.size s w4.heap.size x, q15, .slice A pre.length c, .int .i64 (pre.length : Int), .int .i64 s, .int .i64 o, .string m, undef, ckVal m.size s w4.heap.size x, .string d, undef, undef, undef, undef, undef, undef, undef, undef, undef], defers := [] } V0 := by
        refine hTo.out _ _ _ _ (wpAnyIn_ready (rs := [5, 8]) (by kernel_rfl) (by simp) ?_)
        refine AllReadyIn.cons rfl (fun K hK => ?_) ?_
        · go_simp; exact hK _ _ (hTi.out _ _ _ _ s_0_1_2_3_4_5_6_7)
        refine AllReadyIn.cons rfl (fun K hK => ?_) ?_
        · go_simp; exact hK _ _ (hTi.out _ _ _ _ s_0_1_2_3_4_6_7_8)
        exact AllReadyIn.nil
      have s_0_1_2_3_4_6_8 : T 8 #[true, true, true, true, true, false, true, false, true, false, false, false, false, false, false] { tmps := #[q15, .string m, .int .i64 s, .pointer (some ⟨w.heap.size, 0, none⟩), .pointer (some ⟨w.heap.size + 1, 0, none⟩), .pointer (some ⟨w.heap.size + 1 + 1, 0, none⟩), .slice none 0 0, .pointer (some ⟨w.heap.size + 1 + 1 + 1, 0, none⟩), ckVal m.size s w4.heap.size x, .pointer (some ⟨W.heap.size, 0, none⟩), .string m, q11, .int .i64 s, q13, ckVal m.size s w4.heap.size x, q15, .slice A pre.length c, .int .i64 (pre.length : Int), .int .i64 s, .int .i64 o, .string m, undef, ckVal m.size s w4.heap.size x, undef, .pointer (some ⟨W.heap.size, 0, none⟩), undef, undef, undef, undef, undef, undef, undef, undef], defers := [] } V0 := by
        refine hTo.out _ _ _ _ (wpAnyIn_ready (rs := [5, 7, 9]) (by kernel_rfl) (by simp) ?_)
        refine AllReadyIn.cons rfl (fun K hK => ?_) ?_
        · go_simp; exact hK _ _ (hTi.out _ _ _ _ s_0_1_2_3_4_5_6_8)
        refine AllReadyIn.cons rfl (fun K hK => ?_) ?_
        · go_simp; exact hK _ _ (hTi.out _ _ _ _ s_0_1_2_3_4_6_7_8)
        refine AllReadyIn.cons rfl (fun K hK => ?_) ?_
        · go_simp; exact hK _ _ (hTi.out _ _ _ _ s_0_1_2_3_4_6_8_9)
        exact AllReadyIn.nil
      have s_0_1_2_3_4_8_9 : T 8 #[true, true, true, true, true, false, false, false, true, true, false, false, false, false, false] { tmps := #[q15, .string m, .int .i64 s, .pointer (some ⟨w.heap.size, 0, none⟩), .pointer (some ⟨w.heap.size + 1, 0, none⟩), .pointer (some ⟨w.heap.size + 1 + 1, 0, none⟩), .slice none 0 0, .pointer (some ⟨w.heap.size + 1 + 1 + 1, 0, none⟩), ckVal m.size s w4.heap.size x, .pointer (some ⟨W.heap.size, 0, none⟩), .string m, q11, .int .i64 s, q13, ckVal m.size s w4.heap.size x, q15, .slice A pre.length c, .int .i64 (pre.length : Int), .int .i64 s, .int .i64 o, .string m, undef, undef, undef, .pointer (some ⟨W.heap.size, 0, none⟩), .pointer (some ⟨W.heap.size, 2, none⟩), undef, undef, undef, undef, undef, undef, undef], defers := [] } V0 := by
        refine hTo.out _ _ _ _ (wpAnyIn_ready (rs := [5, 6, 10]) (by kernel_rfl) (by simp) ?_)
        refine AllReadyIn.cons rfl (fun K hK => ?_) ?_
        · go_simp; exact hK _ _ (hTi.out _ _ _ _ s_0_1_2_3_4_5_8_9)
        refine AllReadyIn.cons rfl (fun K hK => ?_) ?_
        · go_simp; exact hK _ _ (hTi.out _ _ _ _ s_0_1_2_3_4_6_8_9)
        refine AllReadyIn.cons rfl (fun K hK => ?_) ?_
        · go_simp; exact hK _ _ (hTi.out _ _ _ _ s_0_1_2_3_4_8_9_10)
        exact AllReadyIn.nil
      have s_0_1_2_3_6_7_8 : T 8 #[true, true, true, true, false, false, true, true, true, false, false, false, false, false, false] { tmps := #[q15, .string m, .int .i64 s, .pointer (some ⟨w.heap.size, 0, none⟩), .pointer (some ⟨w.heap.size + 1, 0, none⟩), .pointer (some ⟨w.heap.size + 1 + 1, 0, none⟩), .slice none 0 0, .pointer (some ⟨w.heap.size + 1 + 1 + 1, 0, none⟩), ckVal m.size s w4.heap.size x, .pointer (some ⟨W.heap.size, 0, none⟩), .string m, q11, .int .i64 s, q13, ckVal m.size s w4.heap.size x, q15, .slice A pre.length c, .int .i64 (pre.length : Int), .int .i64 s, .int .i64 o, undef, undef, ckVal m.size s w4.heap.size x, .string d, .pointer (some ⟨W.heap.size, 0, none⟩), undef, undef, undef, undef, undef, undef, undef, undef], defers := [] } V0 := by
        refine hTo.out _ _ _ _ (wpAnyIn_ready (rs := [4, 9]) (by kernel_rfl) (by simp) ?_)
        refine AllReadyIn.cons rfl (fun K hK => ?_) ?_
        · go_simp; exact hK _ _ (hTi.out _ _ _ _ s_0_1_2_3_4_6_7_8)
        refine AllReadyIn.cons rfl (fun K hK => ?_) ?_
        · go_simp; exact hK _ _ (hTi.out _ _ _ _ s_0_1_2_3_6_7_8_9)
        exact AllReadyIn.nil
      have s_0_1_2_3_6_8_9 : T 8 #[true, true, true, true, false, false, true, false, true, true, false, false, false, false, false] { tmps := #[q15, .string m, .int .i64 s, .pointer (some ⟨w.heap.size, 0, none⟩), .pointer (some ⟨w.heap.size + 1, 0, none⟩), .pointer (some ⟨w.heap.size + 1 + 1, 0, none⟩), .slice none 0 0, .pointer (some ⟨w.heap.size + 1 + 1 + 1, 0, none⟩), ckVal m.size s w4.heap.size x, .pointer (some ⟨W.heap.size, 0, none⟩), .string m, q11, .int .i64 s, q13, ckVal m.size s w4.heap.size x, q15, .slice A pre.length c, .int .i64 (pre.length : Int), .int .i64 s, .int .i64 o, undef, undef, ckVal m.size s w4.heap.size x, undef, .pointer (some ⟨W.heap.size, 0, none⟩), .pointer (some ⟨W.heap.size, 2, none⟩), undef, undef, undef, undef, undef, undef, undef], defers := [] } V0 := by
        refine hTo.out _ _ _ _ (wpAnyIn_ready (rs := [4, 7, 10]) (by kernel_rfl) (by simp) ?_)
        refine AllReadyIn.cons rfl (fun K hK => ?_) ?_
        · go_simp; exact hK _ _ (hTi.out _ _ _ _ s_0_1_2_3_4_6_8_9)
        refine AllReadyIn.cons rfl (fun K hK => ?_) ?_
        · go_simp; exact hK _ _ (hTi.out _ _ _ _ s_0_1_2_3_6_7_8_9)
        refine AllReadyIn.cons rfl (fun K hK => ?_) ?_
        · go_simp; exact hK _ _ (hTi.out _ _ _ _ s_0_1_2_3_6_8_9_10)
        exact AllReadyIn.nil
      have s_0_1_2_3_8_9_10 : T 8 #[true, true, true, true, false, false, false, false, true, true, true, false, false, false, false] { tmps := #[q15, .string m, .int .i64 s, .pointer (some ⟨w.heap.size, 0, none⟩), .pointer (some ⟨w.heap.size + 1, 0, none⟩), .pointer (some ⟨w.heap.size + 1 + 1, 0, none⟩), .slice none 0 0, .pointer (some ⟨w.heap.size + 1 + 1 + 1, 0, none⟩), ckVal m.size s w4.heap.size x, .pointer (some ⟨W.heap.size, 0, none⟩), .string m, q11, .int .i64 s, q13, ckVal m.size s w4.heap.size x, q15, .slice A pre.length c, .int .i64 (pre.length : Int), .int .i64 s, .int .i64 o, undef, undef, undef, undef, .pointer (some ⟨W.heap.size, 0, none⟩), .pointer (some ⟨W.heap.size, 2, none⟩), undef, undef, undef, undef, undef, undef, undef], defers := [] } V1 := by
        refine hTo.out _ _ _ _ (wpAnyIn_ready (rs := [4, 6]) (by kernel_rfl) (by simp) ?_)
        refine AllReadyIn.cons rfl (fun K hK => ?_) ?_
        · go_simp; exact hK _ _ (hTi.out _ _ _ _ s_0_1_2_3_4_8_9_10)
        refine AllReadyIn.cons rfl (fun K hK => ?_) ?_
        · go_simp; exact hK _ _ (hTi.out _ _ _ _ s_0_1_2_3_6_8_9_10)
        exact AllReadyIn.nil
      have s_0_1_2_4_5_6_7 : T 8 #[true, true, true, false, true, true, true, true, false, false, false, false, false, false, false] { tmps := #[q15, .string m, .int .i64 s, .pointer (some ⟨w.heap.size, 0, none⟩), .pointer (some ⟨w.heap.size + 1, 0, none⟩), .pointer (some ⟨w.heap.size + 1 + 1, 0, none⟩), .slice none 0 0, .pointer (some ⟨w.heap.size + 1 + 1 + 1, 0, none⟩), ckVal m.size s w4.heap.size x, .pointer (some ⟨W.heap.size, 0, none⟩), .string m, q11, .int .i64 s, q13, ckVal m.size s w4.heap.size x, q15, .slice A pre.length c, .int .i64 (pre.length : Int), .int .i64 s, undef, .string m, .int .i64 m.size, ckVal m.size s w4.heap.size x, .string d, undef, undef, undef, undef, undef, undef, undef, undef, undef], defers := [] } V0 := by
        refine hTo.out _ _ _ _ (wpAnyIn_ready (rs := [3]) (by kernel_rfl) (by simp) ?_)
        refine AllReadyIn.cons rfl (fun K hK => ?_) ?_
        · go_simp; exact hK _ _ (hTi.out _ _ _ _ s_0_1_2_3_4_5_6_7)
        exact AllReadyIn.nil
      have s_0_1_2_3_4_5 : T 9 #[true, true, true, true, true, true, false, false, false, false, false, false, false, false, false] { tmps := #[q15, .string m, .int .i64 s, .pointer (some ⟨w.heap.size, 0, none⟩), .pointer (some ⟨w.heap.size + 1, 0, none⟩), .pointer (some ⟨w.heap.size + 1 + 1, 0, none⟩), .slice none 0 0, .pointer (some ⟨w.heap.size + 1 + 1 + 1, 0, none⟩), ckVal m.size s w4.heap.size x, .pointer (some ⟨W.heap.size, 0, none⟩), .string m, q11, .int .i64 s, q13, ckVal m.size s w4.heap.size x, q15, .slice A pre.length c, .int .i64 (pre.length : Int), .int .i64 s, .int .i64 o, .string m, .int .i64 m.size, undef, undef, undef, undef, undef, undef, undef, undef, undef, undef, undef], defers := [] } V0 := by
        refine hTo.out _ _ _ _ (wpAnyIn_ready (rs := [6, 8]) (by kernel_rfl) (by simp) ?_)
        refine AllReadyIn.cons rfl (fun K hK => ?_) ?_
        · go_simp; exact hK _ _ (hTi.out _ _ _ _ s_0_1_2_3_4_5_6)
        refine AllReadyIn.cons rfl (fun K hK => ?_) ?_
        · go_simp; exact hK _ _ (hTi.out _ _ _ _ s_0_1_2_3_4_5_8)
        exact AllReadyIn.nil
      have s_0_1_2_3_4_6 : T 9 #[true, true, true, true, true, false, true, false, false, false, false, false, false, false, false] { tmps := #[q15, .string m, .int .i64 s, .pointer (some ⟨w.heap.size, 0, none⟩), .pointer (some ⟨w.heap.size + 1, 0, none⟩), .pointer (some ⟨w.heap.size + 1 + 1, 0, none⟩), .slice none 0 0, .pointer (some ⟨w.heap.size + 1 + 1 + 1, 0, none⟩), ckVal m.size s w4.heap.size x, .pointer (some ⟨W.heap.size, 0, none⟩), .string m, q11, .int .i64 s, q13, ckVal m.size s w4.heap.size x, q15, .slice A pre.length c, .int .i64 (pre.length : Int), .int .i64 s, .int .i64 o, .string m, undef, ckVal m.size s w4.heap.size x, undef, undef, undef, undef, undef, undef, undef, undef, undef, undef], defers := [] } V0 := by
        refine hTo.out _ _ _ _ (wpAnyIn_ready (rs := [5, 7, 8]) (by kernel_rfl) (by simp) ?_)
        refine AllReadyIn.cons rfl (fun K hK => ?_) ?_
        · go_simp; exact hK _ _ (hTi.out _ _ _ _ s_0_1_2_3_4_5_6)
        refine AllReadyIn.cons rfl (fun K hK => ?_) ?_
        · go_simp; exact hK _ _ (hTi.out _ _ _ _ s_0_1_2_3_4_6_7)
        refine AllReadyIn.cons rfl (fun K hK => ?_) ?_
        · go_simp; exact hK _ _ (hTi.out _ _ _ _ s_0_1_2_3_4_6_8)
        exact AllReadyIn.nil
      have s_0_1_2_3_4_8 : T 9 #[true, true, true, true, true, false, false, false, true, false, false, false, false, false, false] { tmps := #[q15, .string m, .int .i64 s, .pointer (some ⟨w.heap.size, 0, none⟩), .pointer (some ⟨w.heap.size + 1, 0, none⟩), .pointer (some ⟨w.heap.size + 1 + 1, 0, none⟩), .slice none 0 0, .pointer (some ⟨w.heap.size + 1 + 1 + 1, 0, none⟩), ckVal m.size s w4.heap.size x, .pointer (some ⟨W.heap.size, 0, none⟩), .string m, q11, .int .i64 s, q13, ckVal m.size s w4.heap.size x, q15, .slice A pre.length c, .int .i64 (pre.length : Int), .int .i64 s, .int .i64 o, .string m, undef, undef, undef, .pointer (some ⟨W.heap.size, 0, none⟩), undef, undef, undef, undef, undef, undef, undef, undef], defers := [] } V0 := by
        refine hTo.out _ _ _ _ (wpAnyIn_ready (rs := [5, 6, 9]) (by kernel_rfl) (by simp) ?_)
        refine AllReadyIn.cons rfl (fun K hK => ?_) ?_
        · go_simp; exact hK _ _ (hTi.out _ _ _ _ s_0_1_2_3_4_5_8)
        refine AllReadyIn.cons rfl (fun K hK => ?_) ?_
        · go_simp; exact hK _ _ (hTi.out _ _ _ _ s_0_1_2_3_4_6_8)
        refine AllReadyIn.cons rfl (fun K hK => ?_) ?_
        · go_simp; exact hK _ _ (hTi.out _ _ _ _ s_0_1_2_3_4_8_9)
        exact AllReadyIn.nil
      have s_0_1_2_3_6_7 : T 9 #[true, true, true, true, false, false, true, true, false, false, false, false, false, false, false] { tmps := #[q15, .string m, .int .i64 s, .pointer (some ⟨w.heap.size, 0, none⟩), .pointer (some ⟨w.heap.size + 1, 0, none⟩), .pointer (some ⟨w.heap.size + 1 + 1, 0, none⟩), .slice none 0 0, .pointer (some ⟨w.heap.size + 1 + 1 + 1, 0, none⟩), ckVal m.size s w4.heap.size x, .pointer (some ⟨W.heap.size, 0, none⟩), .string m, q11, .int .i64 s, q13, ckVal m.size s w4.heap.size x, q15, .slice A pre.length c, .int .i64 (pre.length : Int), .int .i64 s, .int .i64 o, undef, undef, ckVal m.size s w4.heap.size x, .string d, undef, undef, undef, undef, undef, undef, undef, undef, undef], defers := [] } V0 := by
        refine hTo.out _ _ _ _ (wpAnyIn_ready (rs := [4, 8]) (by kernel_rfl) (by simp) ?_)
        refine AllReadyIn.cons rfl (fun K hK => ?_) ?_
        · go_simp; exact hK _ _ (hTi.out _ _ _ _ s_0_1_2_3_4_6_7)
        refine AllReadyIn.cons rfl (fun K hK => ?_) ?_
        · go_simp; exact hK _ _ (hTi.out _ _ _ _ s_0_1_2_3_6_7_8)
        exact AllReadyIn.nil
      have s_0_1_2_3_6_8 : T 9 #[true, true, true, true, false, false, true, false, true, false, false, false, false, false, false] { tmps := #[q15, .string m, .int .i64 s, .pointer (some ⟨w.heap.size, 0, none⟩), .pointer (some ⟨w.heap.size + 1, 0, none⟩), .pointer (some ⟨w.heap.size + 1 + 1, 0, none⟩), .slice none 0 0, .pointer (some ⟨w.heap.size + 1 + 1 + 1, 0, none⟩), ckVal m.size s w4.heap.size x, .pointer (some ⟨W.heap.size, 0, none⟩), .string m, q11, .int .i64 s, q13, ckVal m.size s w4.heap.size x, q15, .slice A pre.length c, .int .i64 (pre.length : Int), .int .i64 s, .int .i64 o, undef, undef, ckVal m.size s w4.heap.size x, undef, .pointer (some ⟨W.heap.size, 0, none⟩), undef, undef, undef, undef, undef, undef, undef, undef], defers := [] } V0 := by
        refine hTo.out _ _ _ _ (wpAnyIn_ready (rs := [4, 7, 9]) (by kernel_rfl) (by simp) ?_)
        refine AllReadyIn.cons rfl (fun K hK => ?_) ?_
        · go_simp; exact hK _ _ (hTi.out _ _ _ _ s_0_1_2_3_4_6_8)
        refine AllReadyIn.cons rfl (fun K hK => ?_) ?_
        · go_simp; exact hK _ _ (hTi.out _ _ _ _ s_0_1_2_3_6_7_8)
        refine AllReadyIn.cons rfl (fun K hK => ?_) ?_
        · go_simp; exact hK _ _ (hTi.out _ _ _ _ s_0_1_2_3_6_8_9)
        exact AllReadyIn.nil
      have s_0_1_2_3_8_9 : T 9 #[true, true, true, true, false, false, false, false, true, true, false, false, false, false, false] { tmps := #[q15, .string m, .int .i64 s, .pointer (some ⟨w.heap.size, 0, none⟩), .pointer (some ⟨w.heap.size + 1, 0, none⟩), .pointer (some ⟨w.heap.size + 1 + 1, 0, none⟩), .slice none 0 0, .pointer (some ⟨w.heap.size + 1 + 1 + 1, 0, none⟩), ckVal m.size s w4.heap.size x, .pointer (some ⟨W.heap.size, 0, none⟩), .string m, q11, .int .i64 s, q13, ckVal m.size s w4.heap.size x, q15, .slice A pre.length c, .int .i64 (pre.length : Int), .int .i64 s, .int .i64 o, undef, undef, undef, undef, .pointer (some ⟨W.heap.size, 0, none⟩), .pointer (some ⟨W.heap.size, 2, none⟩), undef, undef, undef, undef, undef, undef, undef], defers := [] } V0 := by
        refine hTo.out _ _ _ _ (wpAnyIn_ready (rs := [4, 6, 10]) (by kernel_rfl) (by simp) ?_)
        refine AllReadyIn.cons rfl (fun K hK => ?_) ?_
        · go_simp; exact hK _ _ (hTi.out _ _ _ _ s_0_1_2_3_4_8_9)
        refine AllReadyIn.cons rfl (fun K hK => ?_) ?_
        · go_simp; exact hK _ _ (hTi.out _ _ _ _ s_0_1_2_3_6_8_9)
        refine AllReadyIn.cons rfl (fun K hK => ?_) ?_
        · go_simp; exact hK _ _ (hTi.out _ _ _ _ s_0_1_2_3_8_9_10)
        exact AllReadyIn.nil
      have s_0_1_2_4_5_6 : T 9 #[true, true, true, false, true, true, true, false, false, false, false, false, false, false, false] { tmps := #[q15, .string m, .int .i64 s, .pointer (some ⟨w.heap.size, 0, none⟩), .pointer (some ⟨w.heap.size + 1, 0, none⟩), .pointer (some ⟨w.heap.size + 1 + 1, 0, none⟩), .slice none 0 0, .pointer (some ⟨w.heap.size + 1 + 1 + 1, 0, none⟩), ckVal m.size s w4.heap.size x, .pointer (some ⟨W.heap.size, 0, none⟩), .string m, q11, .int .i64 s, q13, ckVal m.size s w4.heap.size x, q15, .slice A pre.length c, .int .i64 (pre.length : Int), .int .i64 s, undef, .string m, .int .i64 m.size, ckVal m.size s w4.heap.size x, undef, undef, undef, undef, undef, undef, undef, undef, undef, undef], defers := [] } V0 := by
        refine hTo.out _ _ _ _ (wpAnyIn_ready (rs := [3, 7]) (by kernel_rfl) (by simp) ?_)
        refine AllReadyIn.cons rfl (fun K hK => ?_) ?_
        · go_simp; exact hK _ _ (hTi.out _ _ _ _ s_0_1_2_3_4_5_6)
        refine AllReadyIn.cons rfl (fun K hK => ?_) ?_
        · go_simp; exact hK _ _ (hTi.out _ _ _ _ s_0_1_2_4_5_6_7)
        exact AllReadyIn.nil
      have s_0_1_2_4_6_7 : T 9 #[true, true, true, false, true, false, true, true, false, false, false, false, false, false, false] { tmps := #[q15, .string m, .int .i64 s, .pointer (some ⟨w.heap.size, 0, none⟩), .pointer (some ⟨w.heap.size + 1, 0, none⟩), .pointer (some ⟨w.heap.size + 1 + 1, 0, none⟩), .slice none 0 0, .pointer (some ⟨w.heap.size + 1 + 1 + 1, 0, none⟩), ckVal m.size s w4.heap.size x, .pointer (some ⟨W.heap.size, 0, none⟩), .string m, q11, .int .i64 s, q13, ckVal m.size s w4.heap.size x, q15, .slice A pre.length c, .int .i64 (pre.length : Int), .int .i64 s, undef, .string m, undef, ckVal m.size s w4.heap.size x, .string d, undef, undef, undef, undef, undef, undef, undef, undef, undef], defers := [] } V0 := by
        refine hTo.out _ _ _ _ (wpAnyIn_ready (rs := [3, 5]) (by kernel_rfl) (by simp) ?_)
        refine AllReadyIn.cons rfl (fun K hK => ?_) ?_
        · go_simp; exact hK _ _ (hTi.out _ _ _ _ s_0_1_2_3_4_6_7)
        refine AllReadyIn.cons rfl (fun K hK => ?_) ?_
        · go_simp; exact hK _ _ (hTi.out _ _ _ _ s_0_1_2_4_5_6_7)
        exact AllReadyIn.nil
      have s_0_1_4_5_6_7 : T 9 #[true, true, false, false, true, true, true, true, false, false, false, false, false, false, false] { tmps := #[q15, .string m, .int .i64 s, .pointer (some ⟨w.heap.size, 0, none⟩), .pointer (some ⟨w.heap.size + 1, 0, none⟩), .pointer (some ⟨w.heap.size + 1 + 1, 0, none⟩), .slice none 0 0, .pointer (some ⟨w.heap.size + 1 + 1 + 1, 0, none⟩), ckVal m.size s w4.heap.size x, .pointer (some ⟨W.heap.size, 0, none⟩), .string m, q11, .int .i64 s, q13, ckVal m.size s w4.heap.size x, q15, .slice A pre.length c, .int .i64 (pre.length : Int), undef, undef, .string m, .int .i64 m.size, ckVal m.size s w4.heap.size x, .string d, undef, undef, undef, undef, undef, undef, undef, undef, undef], defers := [] } V0 := by
        refine hTo.out _ _ _ _ (wpAnyIn_ready (rs := [2]) (by kernel_rfl) (by simp) ?_)
        refine AllReadyIn.cons rfl (fun K hK => ?_) ?_
        · go_simp; exact hK _ _ (hTi.out _ _ _ _ s_0_1_2_4_5_6_7)
        exact AllReadyIn.nil
      have s_0_2_4_5_6_7 : T 9 #[true, false, true, false, true, true, true, true, false, false, false, false, false, false, false] { tmps := #[q15, .string m, .int .i64 s, .pointer (some ⟨w.heap.size, 0, none⟩), .pointer (some ⟨w.heap.size + 1, 0, none⟩), .pointer (some ⟨w.heap.size + 1 + 1, 0, none⟩), .slice none 0 0, .pointer (some ⟨w.heap.size + 1 + 1 + 1, 0, none⟩), ckVal m.size s w4.heap.size x, .pointer (some ⟨W.heap.size, 0, none⟩), .string m, q11, .int .i64 s, q13, ckVal m.size s w4.heap.size x, q15, .slice A pre.length c, undef, .int .i64 s, undef, .string m, .int .i64 m.size, ckVal m.size s w4.heap.size x, .string d, undef, undef, undef, undef, undef, undef, undef, undef, undef], defers := [] } V0 := by
        refine hTo.out _ _ _ _ (wpAnyIn_ready (rs := [1]) (by kernel_rfl) (by simp) ?_)
        refine AllReadyIn.cons rfl (fun K hK => ?_) ?_
        · go_simp; exact hK _ _ (hTi.out _ _ _ _ s_0_1_2_4_5_6_7)
        exact AllReadyIn.nil
      have s_0_1_2_3_4 : T 10 #[true, true, true, true, true, false, false, false, false, false, false, false, false, false, false] { tmps := #[q15, .string m, .int .i64 s, .pointer (some ⟨w.heap.size, 0, none⟩), .pointer (some ⟨w.heap.size + 1, 0, none⟩), .pointer (some ⟨w.heap.size + 1 + 1, 0, none⟩), .slice none 0 0, .pointer (some ⟨w.heap.size + 1 + 1 + 1, 0, none⟩), ckVal m.size s w4.heap.size x, .pointer (some ⟨W.heap.size, 0, none⟩), .string m, q11, .int .i64 s, q13, ckVal m.size s w4.heap.size x, q15, .slice A pre.length c, .int .i64 (pre.length : Int), .int .i64 s, .int .i64 o, .string m, undef, undef, undef, undef, undef, undef, undef, undef, undef, undef, undef, undef], defers := [] } V0 := by
        refine hTo.out _ _ _ _ (wpAnyIn_ready (rs := [5, 6, 8]) (by kernel_rfl) (by simp) ?_)
        refine AllReadyIn.cons rfl (fun K hK => ?_) ?_
        · go_simp; exact hK _ _ (hTi.out _ _ _ _ s_0_1_2_3_4_5)
        refine AllReadyIn.cons rfl (fun K hK => ?_) ?_
        · go_simp; exact hK _ _ (hTi.out _ _ _ _ s_0_1_2_3_4_6)
        refine AllReadyIn.cons rfl (fun K hK => ?_) ?_
        · go_simp; exact hK _ _ (hTi.out _ _ _ _ s_0_1_2_3_4_8)
        exact AllReadyIn.nil
      have s_0_1_2_3_6 : T 10 #[true, true, true, true, false, false, true, false, false, false, false, false, false, false, false] { tmps := #[q15, .string m, .int .i64 s, .pointer (some ⟨w.heap.size, 0, none⟩), .pointer (some ⟨w.heap.size + 1, 0, none⟩), .pointer (some ⟨w.heap.size + 1 + 1, 0, none⟩), .slice none 0 0, .pointer (some ⟨w.heap.size + 1 + 1 + 1, 0, none⟩), ckVal m.size s w4.heap.size x, .pointer (some ⟨W.heap.size, 0, none⟩), .string m, q11, .int .i64 s, q13, ckVal m.size s w4.heap.size x, q15, .slice A pre.length c, .int .i64 (pre.length : Int), .int .i64 s, .int .i64 o, undef, undef, ckVal m.size s w4.heap.size x, undef, undef, undef, undef, undef, undef, undef, undef, undef, undef], defers := [] } V0 := by
        refine hTo.out _ _ _ _ (wpAnyIn_ready (rs := [4, 7, 8]) (by kernel_rfl) (by simp) ?_)
        refine AllReadyIn.cons rfl (fun K hK => ?_) ?_
        · go_simp; exact hK _ _ (hTi.out _ _ _ _ s_0_1_2_3_4_6)
        refine AllReadyIn.cons rfl (fun K hK => ?_) ?_
        · go_simp; exact hK _ _ (hTi.out _ _ _ _ s_0_1_2_3_6_7)
        refine AllReadyIn.cons rfl (fun K hK => ?_) ?_
        · go_simp; exact hK _ _ (hTi.out _ _ _ _ s_0_1_2_3_6_8)
        exact AllReadyIn.nil
      have s_0_1_2_3_8 : T 10 #[true, true, true, true, false, false, false, false, true, false, false, false, false, false, false] { tmps := #[q15, .string m, .int .i64 s, .pointer (some ⟨w.heap.size, 0, none⟩), .pointer (some ⟨w.heap.size + 1, 0, none⟩), .pointer (some ⟨w.heap.size + 1 + 1, 0, none⟩), .slice none 0 0, .pointer (some ⟨w.heap.size + 1 + 1 + 1, 0, none⟩), ckVal m.size s w4.heap.size x, .pointer (some ⟨W.heap.size, 0, none⟩), .string m, q11, .int .i64 s, q13, ckVal m.size s w4.heap.size x, q15, .slice A pre.length c, .int .i64 (pre.length : Int), .int .i64 s, .int .i64 o, undef, undef, undef, undef, .pointer (some ⟨W.heap.size, 0, none⟩), undef, undef, undef, undef, undef, undef, undef, undef], defers := [] } V0 := by
        refine hTo.out _ _ _ _ (wpAnyIn_ready (rs := [4, 6, 9]) (by kernel_rfl) (by simp) ?_)
        refine AllReadyIn.cons rfl (fun K hK => ?_) ?_
        · go_simp; exact hK _ _ (hTi.out _ _ _ _ s_0_1_2_3_4_8)
        refine AllReadyIn.cons rfl (fun K hK => ?_) ?_
        · go_simp; exact hK _ _ (hTi.out _ _ _ _ s_0_1_2_3_6_8)
        refine AllReadyIn.cons rfl (fun K hK => ?_) ?_
        · go_simp; exact hK _ _ (hTi.out _ _ _ _ s_0_1_2_3_8_9)
        exact AllReadyIn.nil
      have s_0_1_2_4_5 : T 10 #[true, true, true, false, true, true, false, false, false, false, false, false, false, false, false] { tmps := #[q15, .string m, .int .i64 s, .pointer (some ⟨w.heap.size, 0, none⟩), .pointer (some ⟨w.heap.size + 1, 0, none⟩), .pointer (some ⟨w.heap.size + 1 + 1, 0, none⟩), .slice none 0 0, .pointer (some ⟨w.heap.size + 1 + 1 + 1, 0, none⟩), ckVal m.size s w4.heap.size x, .pointer (some ⟨W.heap.size, 0, none⟩), .string m, q11, .int .i64 s, q13, ckVal m.size s w4.heap.size x, q15, .slice A pre.length c, .int .i64 (pre.length : Int), .int .i64 s, undef, .string m, .int .i64 m.size, undef, undef, undef, undef, undef, undef, undef, undef, undef, undef, undef], defers := [] } V0 := by
        refine hTo.out _ _ _ _ (wpAnyIn_ready (rs := [3, 6]) (by kernel_rfl) (by simp) ?_)
        refine AllReadyIn.cons rfl (fun K hK => ?_) ?_
        · go_simp; exact hK _ _ (hTi.out _ _ _ _ s_0_1_2_3_4_5)
        refine AllReadyIn.cons rfl (fun K hK => ?_) ?_
        · go_simp; exact hK _ _ (hTi.out _ _ _ _ s_0_1_2_4_5_6)
        exact AllReadyIn.nil
      have s_0_1_2_4_6 : T 10 #[true, true, true, false, true, false, true, false, false, false, false, false, false, false, false] { tmps := #[q15, .string m, .int .i64 s, .pointer (some ⟨w.heap.size, 0, none⟩), .pointer (some ⟨w.heap.size + 1, 0, none⟩), .pointer (some ⟨w.heap.size + 1 + 1, 0, none⟩), .slice none 0 0, .pointer (some ⟨w.heap.size + 1 + 1 + 1, 0, none⟩), ckVal m.size s w4.heap.size x, .pointer (some ⟨W.heap.size, 0, none⟩), .string m, q11, .int .i64 s, q13, ckVal m.size s w4.heap.size x, q15, .slice A pre.length c, .int .i64 (pre.length : Int), .int .i64 s, undef, .string m, undef, ckVal m.size s w4.heap.size x, undef, undef, undef, undef, undef, undef, undef, undef, undef, undef], defers := [] } V0 := by
        refine hTo.out _ _ _ _ (wpAnyIn_ready (rs := [3, 5, 7]) (by kernel_rfl) (by simp) ?_)
        refine AllReadyIn.cons rfl (fun K hK => ?_) ?_
        · go_simp; exact hK _ _ (hTi.out _ _ _ _ s_0_1_2_3_4_6)
        refine AllReadyIn.cons rfl (fun K hK => ?_) ?_
        · go_simp; exact hK _ _ (hTi.out _ _ _ _ s_0_1_2_4_5_6)
        refine AllReadyIn.cons rfl (fun K hK => ?_) ?_
        · go_simp; exact hK _ _ (hTi.out _ _ _ _ s_0_1_2_4_6_7)
        exact AllReadyIn.nil
      have s_0_1_2_6_7 : T 10 #[true, true, true, false, false, false, true, true, false, false, false, false, false, false, false] { tmps := #[q15, .string m, .int .i64 s, .pointer (some ⟨w.heap.size, 0, none⟩), .pointer (some ⟨w.heap.size + 1, 0, none⟩), .pointer (some ⟨w.heap.size + 1 + 1, 0, none⟩), .slice none 0 0, .pointer (some ⟨w.heap.size + 1 + 1 + 1, 0, none⟩), ckVal m.size s w4.heap.size x, .pointer (some ⟨W.heap.size, 0, none⟩), .string m, q11, .int .i64 s, q13, ckVal m.size s w4.heap.size x, q15, .slice A pre.length c, .int .i64 (pre.length : Int), .int .i64 s, undef, undef, undef, ckVal m.size s w4.heap.size x, .string d, undef, undef, undef, undef, undef, undef, undef, undef, undef], defers := [] } V0 := by
        refine hTo.out _ _ _ _ (wpAnyIn_ready (rs := [3, 4]) (by kernel_rfl) (by simp) ?_)
        refine AllReadyIn.cons rfl (fun K hK => ?_) ?_
        · go_simp; exact hK _ _ (hTi.out _ _ _ _ s_0_1_2_3_6_7)
        refine AllReadyIn.cons rfl (fun K hK => ?_) ?_
        · go_simp; exact hK _ _ (hTi.out _ _ _ _ s_0_1_2_4_6_7)
        exact AllReadyIn.nil
      have s_0_1_4_5_6 : T 10 #[true, true, false, false, true, true, true, false, false, false, false, false, false, false, false] { tmps := #[q15, .string m, .int .i64 s, .pointer (some ⟨w.heap.size, 0, none⟩), .pointer (some ⟨w.heap.size + 1, 0, none⟩), .pointer (some ⟨w.heap.size + 1 + 1, 0, none⟩), .slice none 0 0, .pointer (some ⟨w.heap.size + 1 + 1 + 1, 0, none⟩), ckVal m.size s w4.heap.size x, .pointer (some ⟨W.heap.size, 0, none⟩), .string m, q11, .int .i64 s, q13, ckVal m.size s w4.heap.size x, q15, .slice A pre.length c, .int .i64 (pre.length : Int), undef, undef, .string m, .int .i64 m.size, ckVal m.size s w4.heap.size x, undef, undef, undef, undef, undef, undef, undef, undef, undef, undef], defers := [] } V0 := by
        refine hTo.out _ _ _ _ (wpAnyIn_ready (rs := [2, 7]) (by kernel_rfl) (by simp) ?_)
        refine AllReadyIn.cons rfl (fun K hK => ?_) ?_
        · go_simp; exact hK _ _ (hTi.out _ _ _ _ s_0_1_2_4_5_6)
        refine AllReadyIn.cons rfl (fun K hK => ?_) ?_
        · go_simp; exact hK _ _ (hTi.out _ _ _ _ s_0_1_4_5_6_7)
        exact AllReadyIn.nil
      have s_0_1_4_6_7 : T 10 #[true, true, false, false, true, false, true, true, false, false, false, false, false, false, false] { tmps := #[q15, .string m, .int .i64 s, .pointer (some ⟨w.heap.size, 0, none⟩), .pointer (some ⟨w.heap.size + 1, 0, none⟩), .pointer (some ⟨w.heap.size + 1 + 1, 0, none⟩), .slice none 0 0, .pointer (some ⟨w.heap.size + 1 + 1 + 1, 0, none⟩), ckVal m.size s w4.heap.size x, .pointer (some ⟨W.heap.size, 0, none⟩), .string m, q11, .int .i64 s, q13, ckVal m.size s w4.heap.size x, q15, .slice A pre.length c, .int .i64 (pre.length : Int), undef, undef, .string m, undef, ckVal m.size s w4.heap.size x, .string d, undef, undef, undef, undef, undef, undef, undef, undef, undef], defers := [] } V0 := by
        refine hTo.out _ _ _ _ (wpAnyIn_ready (rs := [2, 5]) (by kernel_rfl) (by simp) ?_)
        refine AllReadyIn.cons rfl (fun K hK => ?_) ?_
        · go_simp; exact hK _ _ (hTi.out _ _ _ _ s_0_1_2_4_6_7)
        refine AllReadyIn.cons rfl (fun K hK => ?_) ?_
        · go_simp; exact hK _ _ (hTi.out _ _ _ _ s_0_1_4_5_6_7)
        exact AllReadyIn.nil
      have s_0_2_4_5_6 : T 10 #[true, false, true, false, true, true, true, false, false, false, false, false, false, false, false] { tmps := #[q15, .string m, .int .i64 s, .pointer (some ⟨w.heap.size, 0, none⟩), .pointer (some ⟨w.heap.size + 1, 0, none⟩), .pointer (some ⟨w.heap.size + 1 + 1, 0, none⟩), .slice none 0 0, .pointer (some ⟨w.heap.size + 1 + 1 + 1, 0, none⟩), ckVal m.size s w4.heap.size x, .pointer (some ⟨W.heap.size, 0, none⟩), .string m, q11, .int .i64 s, q13, ckVal m.size s w4.heap.size x, q15, .slice A pre.length c, undef, .int .i64 s, undef, .string m, .int .i64 m.size, ckVal m.size s w4.heap.size x, undef, undef, undef, undef, undef, undef, undef, undef, undef, undef], defers := [] } V0 := by
        refine hTo.out _ _ _ _ (wpAnyIn_ready (rs := [1, 7]) (by kernel_rfl) (by simp) ?_)
        refine AllReadyIn.cons rfl (fun K hK => ?_) ?_
        · go_simp; exact hK _ _ (hTi.out _ _ _ _ s_0_1_2_4_5_6)
        refine AllReadyIn.cons rfl (fun K hK => ?_) ?_
        · go_simp; exact hK _ _ (hTi.out _ _ _ _ s_0_2_4_5_6_7)
        exact AllReadyIn.nil
      have s_0_2_4_6_7 : T 10 #[true, false, true, false, true, false, true, true, false, false, false, false, false, false, false] { tmps := #[q15, .string m, .int .i64 s, .pointer (some ⟨w.heap.size, 0, none⟩), .pointer (some ⟨w.heap.size + 1, 0, none⟩), .pointer (some ⟨w.heap.size + 1 + 1, 0, none⟩), .slice none 0 0, .pointer (some ⟨w.heap.size + 1 + 1 + 1, 0, none⟩), ckVal m.size s w4.heap.size x, .pointer (some ⟨W.heap.size, 0, none⟩), .string m, q11, .int .i64 s, q13, ckVal m.size s w4.heap.size x, q15, .slice A pre.length c, undef, .int .i64 s, undef, .string m, undef, ckVal m.size s w4.heap.size x, .string d, undef, undef, undef, undef, undef, undef, undef, undef, undef], defers := [] } V0 := by
        refine hTo.out _ _ _ _ (wpAnyIn_ready (rs := [1, 5]) (by kernel_rfl) (by simp) ?_)
        refine AllReadyIn.cons rfl (fun K hK => ?_) ?_
        · go_simp; exact hK _ _ (hTi.out _ _ _ _ s_0_1_2_4_6_7)
        refine AllReadyIn.cons rfl (fun K hK => ?_) ?_
        · go_simp; exact hK _ _ (hTi.out _ _ _ _ s_0_2_4_5_6_7)
        exact AllReadyIn.nil
      have s_0_4_5_6_7 : T 10 #[true, false, false, false, true, true, true, true, false, false, false, false, false, false, false] { tmps := #[q15, .string m, .int .i64 s, .pointer (some ⟨w.heap.size, 0, none⟩), .pointer (some ⟨w.heap.size + 1, 0, none⟩), .pointer (some ⟨w.heap.size + 1 + 1, 0, none⟩), .slice none 0 0, .pointer (some ⟨w.heap.size + 1 + 1 + 1, 0, none⟩), ckVal m.size s w4.heap.size x, .pointer (some ⟨W.heap.size, 0, none⟩), .string m, q11, .int .i64 s, q13, ckVal m.size s w4.heap.size x, q15, .slice A pre.length c, undef, undef, undef, .string m, .int .i64 m.size, ckVal m.size s w4.heap.size x, .string d, undef, undef, undef, undef, undef, undef, undef, undef, undef], defers := [] } V0 := by
        refine hTo.out _ _ _ _ (wpAnyIn_ready (rs := [1, 2]) (by kernel_rfl) (by simp) ?_)
        refine AllReadyIn.cons rfl (fun K hK => ?_) ?_
        · go_simp; exact hK _ _ (hTi.out _ _ _ _ s_0_1_4_5_6_7)
        refine AllReadyIn.cons rfl (fun K hK => ?_) ?_
        · go_simp; exact hK _ _ (hTi.out _ _ _ _ s_0_2_4_5_6_7)
        exact AllReadyIn.nil
      have s_2_4_5_6_7 : T 10 #[false, false, true, false, true, true, true, true, false, false, false, false, false, false, false] { tmps := #[q15, .string m, .int .i64 s, .pointer (some ⟨w.heap.size, 0, none⟩), .pointer (some ⟨w.heap.size + 1, 0, none⟩), .pointer (some ⟨w.heap.size + 1 + 1, 0, none⟩), .slice none 0 0, .pointer (some ⟨w.heap.size + 1 + 1 + 1, 0, none⟩), ckVal m.size s w4.heap.size x, .pointer (some ⟨W.heap.size, 0, none⟩), .string m, q11, .int .i64 s, q13, ckVal m.size s w4.heap.size x, q15, undef, undef, .int .i64 s, undef, .string m, .int .i64 m.size, ckVal m.size s w4.heap.size x, .string d, undef, undef, undef, undef, undef, undef, undef, undef, undef], defers := [] } V0 := by
        refine hTo.out _ _ _ _ (wpAnyIn_ready (rs := [0]) (by kernel_rfl) (by simp) ?_)
        refine AllReadyIn.cons rfl (fun K hK => ?_) ?_
        · go_simp; exact hK _ _ (hTi.out _ _ _ _ s_0_2_4_5_6_7)
        exact AllReadyIn.nil
      have s_0_1_2_3 : T 11 #[true, true, true, true, false, false, false, false, false, false, false, false, false, false, false] { tmps := #[q15, .string m, .int .i64 s, .pointer (some ⟨w.heap.size, 0, none⟩), .pointer (some ⟨w.heap.size + 1, 0, none⟩), .pointer (some ⟨w.heap.size + 1 + 1, 0, none⟩), .slice none 0 0, .pointer (some ⟨w.heap.size + 1 + 1 + 1, 0, none⟩), ckVal m.size s w4.heap.size x, .pointer (some ⟨W.heap.size, 0, none⟩), .string m, q11, .int .i64 s, q13, ckVal m.size s w4.heap.size x, q15, .slice A pre.length c, .int .i64 (pre.length : Int), .int .i64 s, .int .i64 o, undef, undef, undef, undef, undef, undef, undef, undef, undef, undef, undef, undef, undef], defers := [] } V0 := by
        refine hTo.out _ _ _ _ (wpAnyIn_ready (rs := [4, 6, 8]) (by kernel_rfl) (by simp) ?_)
        refine AllReadyIn.cons rfl (fun K hK => ?_) ?_
        · go_simp; exact hK _ _ (hTi.out _ _ _ _ s_0_1_2_3_4)
        refine AllReadyIn.cons rfl (fun K hK => ?_) ?_
        · go_simp; exact hK _ _ (hTi.out _ _ _ _ s_0_1_2_3_6)
        refine AllReadyIn.cons rfl (fun K hK => ?_) ?_
        · go_simp; exact hK _ _ (hTi.out _ _ _ _ s_0_1_2_3_8)
        exact AllReadyIn.nil
      have s_0_1_2_4 : T 11 #[true, true, true, false, true, false, false, false, false, false, false, false, false, false, false] { tmps := #[q15, .string m, .int .i64 s, .pointer (some ⟨w.heap.size, 0, none⟩), .pointer (some ⟨w.heap.size + 1, 0, none⟩), .pointer (some ⟨w.heap.size + 1 + 1, 0, none⟩), .slice none 0 0, .pointer (some ⟨w.heap.size + 1 + 1 + 1, 0, none⟩), ckVal m.size s w4.heap.size x, .pointer (some ⟨W.heap.size, 0, none⟩), .string m, q11, .int .i64 s, q13, ckVal m.size s w4.heap.size x, q15, .slice A pre.length c, .int .i64 (pre.length : Int), .int .i64 s, undef, .string m, undef, undef, undef, undef, undef, undef, undef, undef, undef, undef, undef, undef], defers := [] } V0 := by
        refine hTo.out _ _ _ _ (wpAnyIn_ready (rs := [3, 5, 6]) (by kernel_rfl) (by simp) ?_)
        refine AllReadyIn.cons rfl (fun K hK => ?_) ?_
        · go_simp; exact hK _ _ (hTi.out _ _ _ _ s_0_1_2_3_4)
        refine AllReadyIn.cons rfl (fun K hK => ?_) ?_
        · go_simp; exact hK _ _ (hTi.out _ _ _ _ s_0_1_2_4_5)
        refine AllReadyIn.cons rfl (fun K hK => ?_) ?_
        · go_simp; exact hK _ _ (hTi.out _ _ _ _ s_0_1_2_4_6)
        exact AllReadyIn.nil
      have s_0_1_2_6 : T 11 #[true, true, true, false, false, false, true, false, false, false, false, false, false, false, false] { tmps := #[q15, .string m, .int .i64 s, .pointer (some ⟨w.heap.size, 0, none⟩), .pointer (some ⟨w.heap.size + 1, 0, none⟩), .pointer (some ⟨w.heap.size + 1 + 1, 0, none⟩), .slice none 0 0, .pointer (some ⟨w.heap.size + 1 + 1 + 1, 0, none⟩), ckVal m.size s w4.heap.size x, .pointer (some ⟨W.heap.size, 0, none⟩), .string m, q11, .int .i64 s, q13, ckVal m.size s w4.heap.size x, q15, .slice A pre.length c, .int .i64 (pre.length : Int), .int .i64 s, undef, undef, undef, ckVal m.size s w4.heap.size x, undef, undef, undef, undef, undef, undef, undef, undef, undef, undef], defers := [] } V0 := by
        refine hTo.out _ _ _ _ (wpAnyIn_ready (rs := [3, 4, 7]) (by kernel_rfl) (by simp) ?_)
        refine AllReadyIn.cons rfl (fun K hK => ?_) ?_
        · go_simp; exact hK _ _ (hTi.out _ _ _ _ s_0_1_2_3_6)
        refine AllReadyIn.cons rfl (fun K hK => ?_) ?_
        · go_simp; exact hK _ _ (hTi.out _ _ _ _ s_0_1_2_4_6)
        refine AllReadyIn.cons rfl (fun K hK => ?_) ?_
        · go_simp; exact hK _ _ (hTi.out _ _ _ _ s_0_1_2_6_7)
        exact AllReadyIn.nil
      have s_0_1_4_5 : T 11 #[true, true, false, false, true, true, false, false, false, false, false, false, false, false, false] { tmps := #[q15, .string m, .int .i64 s, .pointer (some ⟨w.heap.size, 0, none⟩), .pointer (some ⟨w.heap.size + 1, 0, none⟩), .pointer (some ⟨w.heap.size + 1 + 1, 0, none⟩), .slice none 0 0, .pointer (some ⟨w.heap.size + 1 + 1 + 1, 0, none⟩), ckVal m.size s w4.heap.size x, .pointer (some ⟨W.heap.size, 0, none⟩), .string m, q11, .int .i64 s, q13, ckVal m.size s w4.heap.size x, q15, .slice A pre.length c, .int .i64 (pre.length : Int), undef, undef, .string m, .int .i64 m.size, undef, undef, undef, undef, undef, undef, undef, undef, undef, undef, undef], defers := [] } V0 := by
        refine hTo.out _ _ _ _ (wpAnyIn_ready (rs := [2, 6]) (by kernel_rfl) (by simp) ?_)
        refine AllReadyIn.cons rfl (fun K hK => ?_) ?_
        · go_simp; exact hK _ _ (hTi.out _ _ _ _ s_0_1_2_4_5)
        refine AllReadyIn.cons rfl (fun K hK => ?_) ?_
        · go_simp; exact hK _ _ (hTi.out _ _ _ _ s_0_1_4_5_6)
        exact AllReadyIn.nil
      have s_0_1_4_6 : T 11 #[true, true, false, false, true, false, true, false, false, false, false, false, false, false, false] { tmps := #[q15, .string m, .int .i64 s, .pointer (some ⟨w.heap.size, 0, none⟩), .pointer (some ⟨w.heap.size + 1, 0, none⟩), .pointer (some ⟨w.heap.size + 1 + 1, 0, none⟩), .slice none 0 0, .pointer (some ⟨w.heap.size + 1 + 1 + 1, 0, none⟩), ckVal m.size s w4.heap.size x, .pointer (some ⟨W.heap.size, 0, none⟩), .string m, q11, .int .i64 s, q13, ckVal m.size s w4.heap.size x, q15, .slice A pre.length c, .int .i64 (pre.length : Int), undef, undef, .string m, undef, ckVal m.size s w4.heap.size x, undef, undef, undef, undef, undef, undef, undef, undef, undef, undef], defers := [] } V0 := by
        refine hTo.out _ _ _ _ (wpAnyIn_ready (rs := [2, 5, 7]) (by kernel_rfl) (by simp) ?_)
        refine AllReadyIn.cons rfl (fun K hK => ?_) ?_
        · go_simp; exact hK _ _ (hTi.out _ _ _ _ s_0_1_2_4_6)
        refine AllReadyIn.cons rfl (fun K hK => ?_) ?_
        · go_simp; exact hK _ _ (hTi.out _ _ _ _ s_0_1_4_5_6)
        refine AllReadyIn.cons rfl (fun K hK => ?_) ?_
        · go_simp; exact hK _ _ (hTi.out _ _ _ _ s_0_1_4_6_7)
        exact AllReadyIn.nil
      have s_0_1_6_7 : T 11 #[true, true, false, false, false, false, true, true, false, false, false, false, false, false, false] { tmps := #[q15, .string m, .int .i64 s, .pointer (some ⟨w.heap.size, 0, none⟩), .pointer (some ⟨w.heap.size + 1, 0, none⟩), .pointer (some ⟨w.heap.size + 1 + 1, 0, none⟩), .slice none 0 0, .pointer (some ⟨w.heap.size + 1 + 1 + 1, 0, none⟩), ckVal m.size s w4.heap.size x, .pointer (some ⟨W.heap.size, 0, none⟩), .string m, q11, .int .i64 s, q13, ckVal m.size s w4.heap.size x, q15, .slice A pre.length c, .int .i64 (pre.length : Int), undef, undef, undef, undef, ckVal m.size s w4.heap.size x, .string d, undef, undef, undef, undef, undef, undef, undef, undef, undef], defers := [] } V0 := by
        refine hTo.out _ _ _ _ (wpAnyIn_ready (rs := [2, 4]) (by kernel_rfl) (by simp) ?_)
        refine AllReadyIn.cons rfl (fun K hK => ?_) ?_
        · go_simp; exact hK _ _ (hTi.out _ _ _ _ s_0_1_2_6_7)
        refine AllReadyIn.cons rfl (fun K hK => ?_) ?_
        · go_simp; exact hK _ _ (hTi.out _ _ _ _ s_0_1_4_6_7)
        exact AllReadyIn.nil
      have s_0_2_4_5 : T 11 #[true, false, true, false, true, true, false, false, false, false, false, false, false, false, false] { tmps := #[q15, .string m, .int .i64 s, .pointer (some ⟨w.heap.size, 0, none⟩), .pointer (some ⟨w.heap.size + 1, 0, none⟩), .pointer (some ⟨w.heap.size + 1 + 1, 0, none⟩), .slice none 0 0, .pointer (some ⟨w.heap.size + 1 + 1 + 1, 0, none⟩), ckVal m.size s w4.heap.size x, .pointer (some ⟨W.heap.size, 0, none⟩), .string m, q11, .int .i64 s, q13, ckVal m.size s w4.heap.size x, q15, .slice A pre.length c, undef, .int .i64 s, undef, .string m, .int .i64 m.size, undef, undef, undef, undef, undef, undef, undef, undef, undef, undef, undef], defers := [] } V0 := by
        refine hTo.out _ _ _ _ (wpAnyIn_ready (rs := [1, 6]) (by kernel_rfl) (by simp) ?_)
        refine AllReadyIn.cons rfl (fun K hK => ?_) ?_
        · go_simp; exact hK _ _ (hTi.out _ _ _ _ s_0_1_2_4_5)
        refine AllReadyIn.cons rfl (fun K hK => ?_) ?_
        · go_simp; exact hK _ _ (hTi.out _ _ _ _ s_0_2_4_5_6)
        exact AllReadyIn.nil
      have s_0_2_4_6 : T 11 #[true, false, true, false, true, false, true, false, false, false, false, false, false, false, false] { tmps := #[q15, .string m, .int .i64 s, .pointer (some ⟨w.heap.size, 0, none⟩), .pointer (some ⟨w.heap.size + 1, 0, none⟩), .pointer (some ⟨w.heap.size + 1 + 1, 0, none⟩), .slice none 0 0, .pointer (some ⟨w.heap.size + 1 + 1 + 1, 0, none⟩), ckVal m.size s w4.heap.size x, .pointer (some ⟨W.heap.size, 0, none⟩), .string m, q11, .int .i64 s, q13, ckVal m.size s w4.heap.size x, q15, .slice A pre.length c, undef, .int .i64 s, undef, .string m, undef, ckVal m.size s w4.heap.size x, undef, undef, undef, undef, undef, undef, undef, undef, undef, undef], defers := [] } V0 := by
        refine hTo.out _ _ _ _ (wpAnyIn_ready (rs := [1, 5, 7]) (by kernel_rfl) (by simp) ?_)
        refine AllReadyIn.cons rfl (fun K hK => ?_) ?_
        · go_simp; exact hK _ _ (hTi.out _ _ _ _ s_0_1_2_4_6)
        refine AllReadyIn.cons rfl (fun K hK => ?_) ?_
        · go_simp; exact hK _ _ (hTi.out _ _ _ _ s_0_2_4_5_6)
        refine AllReadyIn.cons rfl (fun K hK => ?_) ?_
        · go_simp; exact hK _ _ (hTi.out _ _ _ _ s_0_2_4_6_7)
        exact AllReadyIn.nil
      have s_0_2_6_7 : T 11 #[true, false, true, false, false, false, true, true, false, false, false, false, false, false, false] { tmps := #[q15, .string m, .int .i64 s, .pointer (some ⟨w.heap.size, 0, none⟩), .pointer (some ⟨w.heap.size + 1, 0, none⟩), .pointer (some ⟨w.heap.size + 1 + 1, 0, none⟩), .slice none 0 0, .pointer (some ⟨w.heap.size + 1 + 1 + 1, 0, none⟩), ckVal m.size s w4.heap.size x, .pointer (some ⟨W.heap.size, 0, none⟩), .string m, q11, .int .i64 s, q13, ckVal m.size s w4.heap.size x, q15, .slice A pre.length c, undef, .int .i64 s, undef, undef, undef, ckVal m.size s w4.heap.size x, .string d, undef, undef, undef, undef, undef, undef, undef, undef, undef], defers := [] } V0 := by
        refine hTo.out _ _ _ _ (wpAnyIn_ready (rs := [1, 4]) (by kernel_rfl) (by simp) ?_)
        refine AllReadyIn.cons rfl (fun K hK => ?_) ?_
        · go_simp; exact hK _ _ (hTi.out _ _ _ _ s_0_1_2_6_7)
        refine AllReadyIn.cons rfl (fun K hK => ?_) ?_
        · go_simp; exact hK _ _ (hTi.out _ _ _ _ s_0_2_4_6_7)
        exact AllReadyIn.nil
      have s_0_4_5_6 : T 11 #[true, false, false, false, true, true, true, false, false, false, false, false, false, false, false] { tmps := #[q15, .string m, .int .i64 s, .pointer (some ⟨w.heap.size, 0, none⟩), .pointer (some ⟨w.heap.size + 1, 0, none⟩), .pointer (some ⟨w.heap.size + 1 + 1, 0, none⟩), .slice none 0 0, .pointer (some ⟨w.heap.size + 1 + 1 + 1, 0, none⟩), ckVal m.size s w4.heap.size x, .pointer (some ⟨W.heap.size, 0, none⟩), .string m, q11, .int .i64 s, q13, ckVal m.size s w4.heap.size x, q15, .slice A pre.length c, undef, undef, undef, .string m, .int .i64 m.size, ckVal m.size s w4.heap.size x, undef, undef, undef, undef, undef, undef, undef, undef, undef, undef], defers := [] } V0 := by
        refine hTo.out _ _ _ _ (wpAnyIn_ready (rs := [1, 2, 7]) (by kernel_rfl) (by simp) ?_)
        refine AllReadyIn.cons rfl (fun K hK => ?_) ?_
        · go_simp; exact hK _ _ (hTi.out _ _ _ _ s_0_1_4_5_6)
        refine AllReadyIn.cons rfl (fun K hK => ?_) ?_
        · go_simp; exact hK _ _ (hTi.out _ _ _ _ s_0_2_4_5_6)
        refine AllReadyIn.cons rfl (fun K hK => ?_) ?_
        · go_simp; exact hK _ _ (hTi.out _ _ _ _ s_0_4_5_6_7)
        exact AllReadyIn.nil
      have s_0_4_6_7 : T 11 #[true, false, false, false, true, false, true, true, false, false, false, false, false, false, false] { tmps := #[q15, .string m, .int .i64 s, .pointer (some ⟨w.heap.size, 0, none⟩), .pointer (some ⟨w.heap.size + 1, 0, none⟩), .pointer (some ⟨w.heap.size + 1 + 1, 0, none⟩), .slice none 0 0, .pointer (some ⟨w.heap.size + 1 + 1 + 1, 0, none⟩), ckVal m.size s w4.heap.size x, .pointer (some ⟨W.heap.size, 0, none⟩), .string m, q11, .int .i64 s, q13, ckVal m.size s w4.heap.size x, q15, .slice A pre.length c, undef, undef, undef, .string m, undef, ckVal m.size s w4.heap.size x, .string d, undef, undef, undef, undef, undef, undef, undef, undef, undef], defers := [] } V0 := by
        refine hTo.out _ _ _ _ (wpAnyIn_ready (rs := [1, 2, 5]) (by kernel_rfl) (by simp) ?_)
        refine AllReadyIn.cons rfl (fun K hK => ?_) ?_
        · go_simp; exact hK _ _ (hTi.out _ _ _ _ s_0_1_4_6_7)
        refine AllReadyIn.cons rfl (fun K hK => ?_) ?_
        · go_simp; exact hK _ _ (hTi.out _ _ _ _ s_0_2_4_6_7)
        refine AllReadyIn.cons rfl (fun K hK => ?_) ?_
        · go_simp; exact hK _ _ (hTi.out _ _ _ _ s_0_4_5_6_7)
        exact AllReadyIn.nil
      have s_2_4_5_6 : T 11 #[false, false, true, false, true, true, true, false, false, false, false, false, false, false, false] { tmps := #[q15, .string m, .int .i64 s, .pointer (some ⟨w.heap.size, 0, none⟩), .pointer (some ⟨w.heap.size + 1, 0, none⟩), .pointer (some ⟨w.heap.size + 1 + 1, 0, none⟩), .slice none 0 0, .pointer (some ⟨w.heap.size + 1 + 1 + 1, 0, none⟩), ckVal m.size s w4.heap.size x, .pointer (some ⟨W.heap.size, 0, none⟩), .string m, q11, .int .i64 s, q13, ckVal m.size s w4.heap.size x, q15, undef, undef, .int .i64 s, undef, .string m, .int .i64 m.size, ckVal m.size s w4.heap.size x, undef, undef, undef, undef, undef, undef, undef, undef, undef, undef], defers := [] } V0 := by
        refine hTo.out _ _ _ _ (wpAnyIn_ready (rs := [0, 7]) (by kernel_rfl) (by simp) ?_)
        refine AllReadyIn.cons rfl (fun K hK => ?_) ?_
        · go_simp; exact hK _ _ (hTi.out _ _ _ _ s_0_2_4_5_6)
        refine AllReadyIn.cons rfl (fun K hK => ?_) ?_
        · go_simp; exact hK _ _ (hTi.out _ _ _ _ s_2_4_5_6_7)
        exact AllReadyIn.nil
      have s_2_4_6_7 : T 11 #[false, false, true, false, true, false, true, true, false, false, false, false, false, false, false] { tmps := #[q15, .string m, .int .i64 s, .pointer (some ⟨w.heap.size, 0, none⟩), .pointer (some ⟨w.heap.size + 1, 0, none⟩), .pointer (some ⟨w.heap.size + 1 + 1, 0, none⟩), .slice none 0 0, .pointer (some ⟨w.heap.size + 1 + 1 + 1, 0, none⟩), ckVal m.size s w4.heap.size x, .pointer (some ⟨W.heap.size, 0, none⟩), .string m, q11, .int .i64 s, q13, ckVal m.size s w4.heap.size x, q15, undef, undef, .int .i64 s, undef, .string m, undef, ckVal m.size s w4.heap.size x, .string d, undef, undef, undef, undef, undef, undef, undef, undef, undef], defers := [] } V0 := by
        refine hTo.out _ _ _ _ (wpAnyIn_ready (rs := [0, 5]) (by kernel_rfl) (by simp) ?_)
        refine AllReadyIn.cons rfl (fun K hK => ?_) ?_
        · go_simp; exact hK _ _ (hTi.out _ _ _ _ s_0_2_4_6_7)
        refine AllReadyIn.cons rfl (fun K hK => ?_) ?_
        · go_simp; exact hK _ _ (hTi.out _ _ _ _ s_2_4_5_6_7)
        exact AllReadyIn.nil
      have s_4_5_6_7 : T 11 #[false, false, false, false, true, true, true, true, false, false, false, false, false, false, false] { tmps := #[q15, .string m, .int .i64 s, .pointer (some ⟨w.heap.size, 0, none⟩), .pointer (some ⟨w.heap.size + 1, 0, none⟩), .pointer (some ⟨w.heap.size + 1 + 1, 0, none⟩), .slice none 0 0, .pointer (some ⟨w.heap.size + 1 + 1 + 1, 0, none⟩), ckVal m.size s w4.heap.size x, .pointer (some ⟨W.heap.size, 0, none⟩), .string m, q11, .int .i64 s, q13, ckVal m.size s w4.heap.size x, q15, undef, undef, undef, undef, .string m, .int .i64 m.size, ckVal m.size s w4.heap.size x, .string d, undef, undef, undef, undef, undef, undef, undef, undef, undef], defers := [] } V0 := by
        refine hTo.out _ _ _ _ (wpAnyIn_ready (rs := [0, 2]) (by kernel_rfl) (by simp) ?_)
        refine AllReadyIn.cons rfl (fun K hK => ?_) ?_
        · go_simp; exact hK _ _ (hTi.out _ _ _ _ s_0_4_5_6_7)
        refine AllReadyIn.cons rfl (fun K hK => ?_) ?_
        · go_simp; exact hK _ _ (hTi.out _ _ _ _ s_2_4_5_6_7)
        exact AllReadyIn.nil
      have s_0_1_2 : T 12 #[true, true, true, false, false, false, false, false, false, false, false, false, false, false, false] { tmps := #[q15, .string m, .int .i64 s, .pointer (some ⟨w.heap.size, 0, none⟩), .pointer (some ⟨w.heap.size + 1, 0, none⟩), .pointer (some ⟨w.heap.size + 1 + 1, 0, none⟩), .slice none 0 0, .pointer (some ⟨w.heap.size + 1 + 1 + 1, 0, none⟩), ckVal m.size s w4.heap.size x, .pointer (some ⟨W.heap.size, 0, none⟩), .string m, q11, .int .i64 s, q13, ckVal m.size s w4.heap.size x, q15, .slice A pre.length c, .int .i64 (pre.length : Int), .int .i64 s, undef, undef, undef, undef, undef, undef, undef, undef, undef, undef, undef, undef, undef, undef], defers := [] } V0 := by
        refine hTo.out _ _ _ _ (wpAnyIn_ready (rs := [3, 4, 6]) (by kernel_rfl) (by simp) ?_)
        refine AllReadyIn.cons rfl (fun K hK => ?_) ?_
        · go_simp; exact hK _ _ (hTi.out _ _ _ _ s_0_1_2_3)
        refine AllReadyIn.cons rfl (fun K hK => ?_) ?_
        · go_simp; exact hK _ _ (hTi.out _ _ _ _ s_0_1_2_4)
        refine AllReadyIn.cons rfl (fun K hK => ?_) ?_
        · go_simp; exact hK _ _ (hTi.out _ _ _ _ s_0_1_2_6)
        exact AllReadyIn.nil
      have s_0_1_4 : T 12 #[true, true, false, false, true, false, false, false, false, false, false, false, false, false, false] { tmps := #[q15, .string m, .int .i64 s, .pointer (some ⟨w.heap.size, 0, none⟩), .pointer (some ⟨w.heap.size + 1, 0, none⟩), .pointer (some ⟨w.heap.size + 1 + 1, 0, none⟩), .slice none 0 0, .pointer (some ⟨w.heap.size + 1 + 1 + 1, 0, none⟩), ckVal m.size s w4.heap.size x, .pointer (some ⟨W.heap.size, 0, none⟩), .string m, q11, .int .i64 s, q13, ckVal m.size s w4.heap.size x, q15, .slice A pre.length c, .int .i64 (pre.length : Int), undef, undef, .string m, undef, undef, undef, undef, undef, undef, undef, undef, undef, undef, undef, undef], defers := [] } V0 := by
        refine hTo.out _ _ _ _ (wpAnyIn_ready (rs := [2, 5, 6]) (by kernel_rfl) (by simp) ?_)
        refine AllReadyIn.cons rfl (fun K hK => ?_) ?_
        · go_simp; exact hK _ _ (hTi.out _ _ _ _ s_0_1_2_4)
        refine AllReadyIn.cons rfl (fun K hK => ?_) ?_
        · go_simp; exact hK _ _ (hTi.out _ _ _ _ s_0_1_4_5)
        refine AllReadyIn.cons rfl (fun K hK => ?_) ?_
        · go_simp; exact hK _ _ (hTi.out _ _ _ _ s_0_1_4_6)
        exact AllReadyIn.nil
      have s_0_1_6 : T 12 #[true, true, false, false, false, false, true, false, false, false, false, false, false, false, false] { tmps := #[q15, .string m, .int .i64 s, .pointer (some ⟨w.heap.size, 0, none⟩), .pointer (some ⟨w.heap.size + 1, 0, none⟩), .pointer (some ⟨w.heap.size + 1 + 1, 0, none⟩), .slice none 0 0, .pointer (some ⟨w.heap.size + 1 + 1 + 1, 0, none⟩), ckVal m.size s w4.heap.size x, .pointer (some ⟨W.heap.size, 0, none⟩), .string m, q11, .int .i64 s, q13, ckVal m.size s w4.heap.size x, q15, .slice A pre.length c, .int .i64 (pre.length : Int), undef, undef, undef, undef, ckVal m.size s w4.heap.size x, undef, undef, undef, undef, undef, undef, undef, undef, undef, undef], defers := [] } V0 := by
        refine hTo.out _ _ _ _ (wpAnyIn_ready (rs := [2, 4, 7]) (by kernel_rfl) (by simp) ?_)
        refine AllReadyIn.cons rfl (fun K hK => ?_) ?_
        · go_simp; exact hK _ _ (hTi.out _ _ _ _ s_0_1_2_6)
        refine AllReadyIn.cons rfl (fun K hK => ?_) ?_
        · go_simp; exact hK _ _ (hTi.out _ _ _ _ s_0_1_4_6)
        refine AllReadyIn.cons rfl (fun K hK => ?_) ?_
        · go_simp; exact hK _ _ (hTi.out _ _ _ _ s_0_1_6_7)
        exact AllReadyIn.nil
      have s_0_2_4 : T 12 #[true, false, true, false, true, false, false, false, false, false, false, false, false, false, false] { tmps := #[q15, .string m, .int .i64 s, .pointer (some ⟨w.heap.size, 0, none⟩), .pointer (some ⟨w.heap.size + 1, 0, none⟩), .pointer (some ⟨w.heap.size + 1 + 1, 0, none⟩), .slice none 0 0, .pointer (some ⟨w.heap.size + 1 + 1 + 1, 0, none⟩), ckVal m.size s w4.heap.size x, .pointer (some ⟨W.heap.size, 0, none⟩), .string m, q11, .int .i64 s, q13, ckVal m.size s w4.heap.size x, q15, .slice A pre.length c, undef, .int .i64 s, undef, .string m, undef, undef, undef, undef, undef, undef, undef, undef, undef, undef, undef, undef], defers := [] } V0 := by
        refine hTo.out _ _ _ _ (wpAnyIn_ready (rs := [1, 5, 6]) (by kernel_rfl) (by simp) ?_)
        refine AllReadyIn.cons rfl (fun K hK => ?_) ?_
        · go_simp; exact hK _ _ (hTi.out _ _ _ _ s_0_1_2_4)
        refine AllReadyIn.cons rfl (fun K hK => ?_) ?_
        · go_simp; exact hK _ _ (hTi.out _ _ _ _ s_0_2_4_5)
        refine AllReadyIn.cons rfl (fun K hK => ?_) ?_
        · go_simp; exact hK _ _ (hTi.out _ _ _ _ s_0_2_4_6)
        exact AllReadyIn.nil
      have s_0_2_6 : T 12 #[true, false, true, false, false, false, true, false, false, false, false, false, false, false, false] { tmps := #[q15, .string m, .int .i64 s, .pointer (some ⟨w.heap.size, 0, none⟩), .pointer (some ⟨w.heap.size + 1, 0, none⟩), .pointer (some ⟨w.heap.size + 1 + 1, 0, none⟩), .slice none 0 0, .pointer (some ⟨w.heap.size + 1 + 1 + 1, 0, none⟩), ckVal m.size s w4.heap.size x, .pointer (some ⟨W.heap.size, 0, none⟩), .string m, q11, .int .i64 s, q13, ckVal m.size s w4.heap.size x, q15, .slice A pre.length c, undef, .int .i64 s, undef, undef, undef, ckVal m.size s w4.heap.size x, undef, undef, undef, undef, undef, undef, undef, undef, undef, undef], defers := [] } V0 := by
        refine hTo.out _ _ _ _ (wpAnyIn_ready (rs := [1, 4, 7]) (by kernel_rfl) (by simp) ?_)
        refine AllReadyIn.cons rfl (fun K hK => ?_) ?_
        · go_simp; exact hK _ _ (hTi.out _ _ _ _ s_0_1_2_6)
        refine AllReadyIn.cons rfl (fun K hK => ?_) ?_
        · go_simp; exact hK _ _ (hTi.out _ _ _ _ s_0_2_4_6)
        refine AllReadyIn.cons rfl (fun K hK => ?_) ?_
        · go_simp; exact hK _ _ (hTi.out _ _ _ _ s_0_2_6_7)
        exact AllReadyIn.nil
      have s_0_4_5 : T 12 #[true, false, false, false, true, true, false, false, false, false, false, false, false, false, false] { tmps := #[q15, .string m, .int .i64 s, .pointer (some ⟨w.heap.size, 0, none⟩), .pointer (some ⟨w.heap.size + 1, 0, none⟩), .pointer (some ⟨w.heap.size + 1 + 1, 0, none⟩), .slice none 0 0, .pointer (some ⟨w.heap.size + 1 + 1 + 1, 0, none⟩), ckVal m.size s w4.heap.size x, .pointer (some ⟨W.heap.size, 0, none⟩), .string m, q11, .int .i64 s, q13, ckVal m.size s w4.heap.size x, q15, .slice A pre.length c, undef, undef, undef, .string m, .int .i64 m.size, undef, undef, undef, undef, undef, undef, undef, undef, undef, undef, undef], defers := [] } V0 := by
        refine hTo.out _ _ _ _ (wpAnyIn_ready (rs := [1, 2, 6]) (by kernel_rfl) (by simp) ?_)
        refine AllReadyIn.cons rfl (fun K hK => ?_) ?_
        · go_simp; exact hK _ _ (hTi.out _ _ _ _ s_0_1_4_5)
        refine AllReadyIn.cons rfl (fun K hK => ?_) ?_
        · go_simp; exact hK _ _ (hTi.out _ _ _ _ s_0_2_4_5)
        refine AllReadyIn.cons rfl (fun K hK => ?_) ?_
        · go_simp; exact hK _ _ (hTi.out _ _ _ _ s_0_4_5_6)
        exact AllReadyIn.nil
      have s_0_4_6 : T 12 #[true, false, false, false, true, false, true, false, false, false, false, false, false, false, false] { tmps := #[q15, .string m, .int .i64 s, .pointer (some ⟨w.heap.size, 0, none⟩), .pointer (some ⟨w.heap.size + 1, 0, none⟩), .pointer (some ⟨w.heap.size + 1 + 1, 0, none⟩), .slice none 0 0, .pointer (some ⟨w.heap.size + 1 + 1 + 1, 0, none⟩), ckVal m.size s w4.heap.size x, .pointer (some ⟨W.heap.size, 0, none⟩), .string m, q11, .int .i64 s, q13, ckVal m.size s w4.heap.size x, q15, .slice A pre.length c, undef, undef, undef, .string m, undef, ckVal m.size s w4.heap.size x, undef, undef, undef, undef, undef, undef, undef, undef, undef, undef], defers := [] } V0 := by
        refine hTo.out _ _ _ _ (wpAnyIn_ready (rs := [1, 2, 5, 7]) (by kernel_rfl) (by simp) ?_)
        refine AllReadyIn.cons rfl (fun K hK => ?_) ?_
        · go_simp; exact hK _ _ (hTi.out _ _ _ _ s_0_1_4_6)
        refine AllReadyIn.cons rfl (fun K hK => ?_) ?_
        · go_simp; exact hK _ _ (hTi.out _ _ _ _ s_0_2_4_6)
        refine AllReadyIn.cons rfl (fun K hK => ?_) ?_
        · go_simp; exact hK _ _ (hTi.out _ _ _ _ s_0_4_5_6)
        refine AllReadyIn.cons rfl (fun K hK => ?_) ?_
        · go_simp; exact hK _ _ (hTi.out _ _ _ _ s_0_4_6_7)
        exact AllReadyIn.nil
      have s_0_6_7 : T 12 #[true, false, false, false, false, false, true, true, false, false, false, false, false, false, false] { tmps := #[q15, .string m, .int .i64 s, .pointer (some ⟨w.heap.size, 0, none⟩), .pointer (some ⟨w.heap.size + 1, 0, none⟩), .pointer (some ⟨w.heap.size + 1 + 1, 0, none⟩), .slice none 0 0, .pointer (some ⟨w.heap.size + 1 + 1 + 1, 0, none⟩), ckVal m.size s w4.heap.size x, .pointer (some ⟨W.heap.size, 0, none⟩), .string m, q11, .int .i64 s, q13, ckVal m.size s w4.heap.size x, q15, .slice A pre.length c, undef, undef, undef, undef, undef, ckVal m.size s w4.heap.size x, .string d, undef, undef, undef, undef, undef, undef, undef, undef, undef], defers := [] } V0 := by
        refine hTo.out _ _ _ _ (wpAnyIn_ready (rs := [1, 2, 4]) (by kernel_rfl) (by simp) ?_)
        refine AllReadyIn.cons rfl (fun K hK => ?_) ?_
        · go_simp; exact hK _ _ (hTi.out _ _ _ _ s_0_1_6_7)
        refine AllReadyIn.cons rfl (fun K hK => ?_) ?_
        · go_simp; exact hK _ _ (hTi.out _ _ _ _ s_0_2_6_7)
        refine AllReadyIn.cons rfl (fun K hK => ?_) ?_
        · go_simp; exact hK _ _ (hTi.out _ _ _ _ s_0_4_6_7)
        exact AllReadyIn.nil
      have s_2_4_5 : T 12 #[false, false, true, false, true, true, false, false, false, false, false, false, false, false, false] { tmps := #[q15, .string m, .int .i64 s, .pointer (some ⟨w.heap.size, 0, none⟩), .pointer (some ⟨w.heap.size + 1, 0, none⟩), .pointer (some ⟨w.heap.size + 1 + 1, 0, none⟩), .slice none 0 0, .pointer (some ⟨w.heap.size + 1 + 1 + 1, 0, none⟩), ckVal m.size s w4.heap.size x, .pointer (some ⟨W.heap.size, 0, none⟩), .string m, q11, .int .i64 s, q13, ckVal m.size s w4.heap.size x, q15, undef, undef, .int .i64 s, undef, .string m, .int .i64 m.size, undef, undef, undef, undef, undef, undef, undef, undef, undef, undef, undef], defers := [] } V0 := by
        refine hTo.out _ _ _ _ (wpAnyIn_ready (rs := [0, 6]) (by kernel_rfl) (by simp) ?_)
        refine AllReadyIn.cons rfl (fun K hK => ?_) ?_
        · go_simp; exact hK _ _ (hTi.out _ _ _ _ s_0_2_4_5)
        refine AllReadyIn.cons rfl (fun K hK => ?_) ?_
        · go_simp; exact hK _ _ (hTi.out _ _ _ _ s_2_4_5_6)
        exact AllReadyIn.nil
      have s_2_4_6 : T 12 #[false, false, true, false, true, false, true, false, false, false, false, false, false, false, false] { tmps := #[q15, .string m, .int .i64 s, .pointer (some ⟨w.heap.size, 0, none⟩), .pointer (some ⟨w.heap.size + 1, 0, none⟩), .pointer (some ⟨w.heap.size + 1 + 1, 0, none⟩), .slice none 0 0, .pointer (some ⟨w.heap.size + 1 + 1 + 1, 0, none⟩), ckVal m.size s w4.heap.size x, .pointer (some ⟨W.heap.size, 0, none⟩), .string m, q11, .int .i64 s, q13, ckVal m.size s w4.heap.size x, q15, undef, undef, .int .i64 s, undef, .string m, undef, ckVal m.size s w4.heap.size x, undef, undef, undef, undef, undef, undef, undef, undef, undef, undef], defers := [] } V0 := by
        refine hTo.out _ _ _ _ (wpAnyIn_ready (rs := [0, 5, 7]) (by kernel_rfl) (by simp) ?_)
        refine AllReadyIn.cons rfl (fun K hK => ?_) ?_
        · go_simp; exact hK _ _ (hTi.out _ _ _ _ s_0_2_4_6)
        refine AllReadyIn.cons rfl (fun K hK => ?_) ?_
        · go_simp; exact hK _ _ (hTi.out _ _ _ _ s_2_4_5_6)
        refine AllReadyIn.cons rfl (fun K hK => ?_) ?_
        · go_simp; exact hK _ _ (hTi.out _ _ _ _ s_2_4_6_7)
        exact AllReadyIn.nil
      have s_2_6_7 : T 12 #[false, false, true, false, false, false, true, true, false, false, false, false, false, false, false] { tmps := #[q15, .string m, .int .i64 s, .pointer (some ⟨w.heap.size, 0, none⟩), .pointer (some ⟨w.heap.size + 1, 0, none⟩), .pointer (some ⟨w.heap.size + 1 + 1, 0, none⟩), .slice none 0 0, .pointer (some ⟨w.heap.size + 1 + 1 + 1, 0, none⟩), ckVal m.size s w4.heap.size x, .pointer (some ⟨W.heap.size, 0, none⟩), .string m, q11, .int .i64 s, q13, ckVal m.size s w4.heap.size x, q15, undef, undef, .int .i64 s, undef, undef, undef, ckVal m.size s w4.heap.size x, .string d, undef, undef, undef, undef, undef, undef, undef, undef, undef], defers := [] } V0 := by
        refine hTo.out _ _ _ _ (wpAnyIn_ready (rs := [0, 4]) (by kernel_rfl) (by simp) ?_)
        refine AllReadyIn.cons rfl (fun K hK => ?_) ?_
        · go_simp; exact hK _ _ (hTi.out _ _ _ _ s_0_2_6_7)
        refine AllReadyIn.cons rfl (fun K hK => ?_) ?_
        · go_simp; exact hK _ _ (hTi.out _ _ _ _ s_2_4_6_7)
        exact AllReadyIn.nil
      have s_4_5_6 : T 12 #[false, false, false, false, true, true, true, false, false, false, false, false, false, false, false] { tmps := #[q15, .string m, .int .i64 s, .pointer (some ⟨w.heap.size, 0, none⟩), .pointer (some ⟨w.heap.size + 1, 0, none⟩), .pointer (some ⟨w.heap.size + 1 + 1, 0, none⟩), .slice none 0 0, .pointer (some ⟨w.heap.size + 1 + 1 + 1, 0, none⟩), ckVal m.size s w4.heap.size x, .pointer (some ⟨W.heap.size, 0, none⟩), .string m, q11, .int .i64 s, q13, ckVal m.size s w4.heap.size x, q15, undef, undef, undef, undef, .string m, .int .i64 m.size, ckVal m.size s w4.heap.size x, undef, undef, undef, undef, undef, undef, undef, undef, undef, undef], defers := [] } V0 := by
        refine hTo.out _ _ _ _ (wpAnyIn_ready (rs := [0, 2, 7]) (by kernel_rfl) (by simp) ?_)
        refine AllReadyIn.cons rfl (fun K hK => ?_) ?_
        · go_simp; exact hK _ _ (hTi.out _ _ _ _ s_0_4_5_6)
        refine AllReadyIn.cons rfl (fun K hK => ?_) ?_
        · go_simp; exact hK _ _ (hTi.out _ _ _ _ s_2_4_5_6)
        refine AllReadyIn.cons rfl (fun K hK => ?_) ?_
        · go_simp; exact hK _ _ (hTi.out _ _ _ _ s_4_5_6_7)
        exact AllReadyIn.nil
      have s_4_6_7 : T 12 #[false, false, false, false, true, false, true, true, false, false, false, false, false, false, false] { tmps := #[q15, .string m, .int .i64 s, .pointer (some ⟨w.heap.size, 0, none⟩), .pointer (some ⟨w.heap.size + 1, 0, none⟩), .pointer (some ⟨w.heap.size + 1 + 1, 0, none⟩), .slice none 0 0, .pointer (some ⟨w.heap.size + 1 + 1 + 1, 0, none⟩), ckVal m.size s w4.heap.size x, .pointer (some ⟨W.heap.size, 0, none⟩), .string m, q11, .int .i64 s, q13, ckVal m.size s w4.heap.size x, q15, undef, undef, undef, undef, .string m, undef, ckVal m.size s w4.heap.size x, .string d, undef, undef, undef, undef, undef, undef, undef, undef, undef], defers := [] } V0 := by
        refine hTo.out _ _ _ _ (wpAnyIn_ready (rs := [0, 2, 5]) (by kernel_rfl) (by simp) ?_)
        refine AllReadyIn.cons rfl (fun K hK => ?_) ?_
        · go_simp; exact hK _ _ (hTi.out _ _ _ _ s_0_4_6_7)
        refine AllReadyIn.cons rfl (fun K hK => ?_) ?_
        · go_simp; exact hK _ _ (hTi.out _ _ _ _ s_2_4_6_7)
        refine AllReadyIn.cons rfl (fun K hK => ?_) ?_
        · go_simp; exact hK _ _ (hTi.out _ _ _ _ s_4_5_6_7)
        exact AllReadyIn.nil
      have s_0_1 : T 13 #[true, true, false, false, false, false, false, false, false, false, false, false, false, false, false] { tmps := #[q15, .string m, .int .i64 s, .pointer (some ⟨w.heap.size, 0, none⟩), .pointer (some ⟨w.heap.size + 1, 0, none⟩), .pointer (some ⟨w.heap.size + 1 + 1, 0, none⟩), .slice none 0 0, .pointer (some ⟨w.heap.size + 1 + 1 + 1, 0, none⟩), ckVal m.size s w4.heap.size x, .pointer (some ⟨W.heap.size, 0, none⟩), .string m, q11, .int .i64 s, q13, ckVal m.size s w4.heap.size x, q15, .slice A pre.length c, .int .i64 (pre.length : Int), undef, undef, undef, undef, undef, undef, undef, undef, undef, undef, undef, undef, undef, undef, undef], defers := [] } V0 := by
        refine hTo.out _ _ _ _ (wpAnyIn_ready (rs := [2, 4, 6]) (by kernel_rfl) (by simp) ?_)
        refine AllReadyIn.cons rfl (fun K hK => ?_) ?_
        · go_simp; exact hK _ _ (hTi.out _ _ _ _ s_0_1_2)
        refine AllReadyIn.cons rfl (fun K hK => ?_) ?_
        · go_simp; exact hK _ _ (hTi.out _ _ _ _ s_0_1_4)
        refine AllReadyIn.cons rfl (fun K hK => ?_) ?_
        · go_simp; exact hK _ _ (hTi.out _ _ _ _ s_0_1_6)
        exact AllReadyIn.nil
      have s_0_2 : T 13 #[true, false, true, false, false, false, false, false, false, false, false, false, false, false, false] { tmps := #[q15, .string m, .int .i64 s, .pointer (some ⟨w.heap.size, 0, none⟩), .pointer (some ⟨w.heap.size + 1, 0, none⟩), .pointer (some ⟨w.heap.size + 1 + 1, 0, none⟩), .slice none 0 0, .pointer (some ⟨w.heap.size + 1 + 1 + 1, 0, none⟩), ckVal m.size s w4.heap.size x, .pointer (some ⟨W.heap.size, 0, none⟩), .string m, q11, .int .i64 s, q13, ckVal m.size s w4.heap.size x, q15, .slice A pre.length c, undef, .int .i64 s, undef, undef, undef, undef, undef, undef, undef, undef, undef, undef, undef, undef, undef, undef], defers := [] } V0 := by
        refine hTo.out _ _ _ _ (wpAnyIn_ready (rs := [1, 4, 6]) (by kernel_rfl) (by simp) ?_)
        refine AllReadyIn.cons rfl (fun K hK => ?_) ?_
        · go_simp; exact hK _ _ (hTi.out _ _ _ _ s_0_1_2)
        refine AllReadyIn.cons rfl (fun K hK => ?_) ?_
        · go_simp; exact hK _ _ (hTi.out _ _ _ _ s_0_2_4)
        refine AllReadyIn.cons rfl (fun K hK => ?_) ?_
        · go_simp; exact hK _ _ (hTi.out _ _ _ _ s_0_2_6)
        exact AllReadyIn.nil
      have s_0_4 : T 13 #[true, false, false, false, true, false, false, false, false, false, false, false, false, false, false] { tmps := #[q15, .string m, .int .i64 s, .pointer (some ⟨w.heap.size, 0, none⟩), .pointer (some ⟨w.heap.size + 1, 0, none⟩), .pointer (some ⟨w.heap.size + 1 + 1, 0, none⟩), .slice none 0 0, .pointer (some ⟨w.heap.size + 1 + 1 + 1, 0, none⟩), ckVal m.size s w4.heap.size x, .pointer (some ⟨W.heap.size, 0, none⟩), .string m, q11, .int .i64 s, q13, ckVal m.size s w4.heap.size x, q15, .slice A pre.length c, undef, undef, undef, .string m, undef, undef, undef, undef, undef, undef, undef, undef, undef, undef, undef, undef], defers := [] } V0 := by
        refine hTo.out _ _ _ _ (wpAnyIn_ready (rs := [1, 2, 5, 6]) (by kernel_rfl) (by simp) ?_)
        refine AllReadyIn.cons rfl (fun K hK => ?_) ?_
        · go_simp; exact hK _ _ (hTi.out _ _ _ _ s_0_1_4)
        refine AllReadyIn.cons rfl (fun K hK => ?_) ?_
        · go_simp; exact hK _ _ (hTi.out _ _ _ _ s_0_2_4)
        refine AllReadyIn.cons rfl (fun K hK => ?_) ?_
        · go_simp; exact hK _ _ (hTi.out _ _ _ _ s_0_4_5)
        refine AllReadyIn.cons rfl (fun K hK => ?_) ?_
        · go_simp; exact hK _ _ (hTi.out _ _ _ _ s_0_4_6)
        exact AllReadyIn.nil
      have s_0_6 : T 13 #[true, false, false, false, false, false, true, false, false, false, false, false, false, false, false] { tmps := #[q15, .string m, .int .i64 s, .pointer (some ⟨w.heap.size, 0, none⟩), .pointer (some ⟨w.heap.size + 1, 0, none⟩), .pointer (some ⟨w.heap.size + 1 + 1, 0, none⟩), .slice none 0 0, .pointer (some ⟨w.heap.size + 1 + 1 + 1, 0, none⟩), ckVal m.size s w4.heap.size x, .pointer (some ⟨W.heap.size, 0, none⟩), .string m, q11, .int .i64 s, q13, ckVal m.size s w4.heap.size x, q15, .slice A pre.length c, undef, undef, undef, undef, undef, ckVal m.size s w4.heap.size x, undef, undef, undef, undef, undef, undef, undef, undef, undef, undef], defers := [] } V0 := by
        refine hTo.out _ _ _ _ (wpAnyIn_ready (rs := [1, 2, 4, 7]) (by kernel_rfl) (by simp) ?_)
        refine AllReadyIn.cons rfl (fun K hK => ?_) ?_
        · go_simp; exact hK _ _ (hTi.out _ _ _ _ s_0_1_6)
        refine AllReadyIn.cons rfl (fun K hK => ?_) ?_
        · go_simp; exact hK _ _ (hTi.out _ _ _ _ s_0_2_6)
        refine AllReadyIn.cons rfl (fun K hK => ?_) ?_
        · go_simp; exact hK _ _ (hTi.out _ _ _ _ s_0_4_6)
        refine AllReadyIn.cons rfl (fun K hK => ?_) ?_
        · go_simp; exact hK _ _ (hTi.out _ _ _ _ s_0_6_7)
        exact AllReadyIn.nil
      have s_2_4 : T 13 #[false, false, true, false, true, false, false, false, false, false, false, false, false, false, false] { tmps := #[q15, .string m, .int .i64 s, .pointer (some ⟨w.heap.size, 0, none⟩), .pointer (some ⟨w.heap.size + 1, 0, none⟩), .pointer (some ⟨w.heap.size + 1 + 1, 0, none⟩), .slice none 0 0, .pointer (some ⟨w.heap.size + 1 + 1 + 1, 0, none⟩), ckVal m.size s w4.heap.size x, .pointer (some ⟨W.heap.size, 0, none⟩), .string m, q11, .int .i64 s, q13, ckVal m.size s w4.heap.size x, q15, undef, undef, .int .i64 s, undef, .string m, undef, undef, undef, undef, undef, undef, undef, undef, undef, undef, undef, undef], defers := [] } V0 := by
        refine hTo.out _ _ _ _ (wpAnyIn_ready (rs := [0, 5, 6]) (by kernel_rfl) (by simp) ?_)
        refine AllReadyIn.cons rfl (fun K hK => ?_) ?_
        · go_simp; exact hK _ _ (hTi.out _ _ _ _ s_0_2_4)
        refine AllReadyIn.cons rfl (fun K hK => ?_) ?_
        · go_simp; exact hK _ _ (hTi.out _ _ _ _ s_2_4_5)
        refine AllReadyIn.cons rfl (fun K hK => ?_) ?_
        · go_simp; exact hK _ _ (hTi.out _ _ _ _ s_2_4_6)
        exact AllReadyIn.nil
      have s_2_6 : T 13 #[false, false, true, false, false, false, true, false, false, false, false, false, false, false, false] { tmps := #[q15, .string m, .int .i64 s, .pointer (some ⟨w.heap.size, 0, none⟩), .pointer (some ⟨w.heap.size + 1, 0, none⟩), .pointer (some ⟨w.heap.size + 1 + 1, 0, none⟩), .slice none 0 0, .pointer (some ⟨w.heap.size + 1 + 1 + 1, 0, none⟩), ckVal m.size s w4.heap.size x, .pointer (some ⟨W.heap.size, 0, none⟩), .string m, q11, .int .i64 s, q13, ckVal m.size s w4.heap.size x, q15, undef, undef, .int .i64 s, undef, undef, undef, ckVal m.size s w4.heap.size x, undef, undef, undef, undef, undef, undef, undef, undef, undef, undef], defers := [] } V0 := by
        refine hTo.out _ _ _ _ (wpAnyIn_ready (rs := [0, 4, 7]) (by kernel_rfl) (by simp) ?_)
        refine AllReadyIn.cons rfl (fun K hK => ?_) ?_
        · go_simp; exact hK _ _ (hTi.out _ _ _ _ s_0_2_6)
        refine AllReadyIn.cons rfl (fun K hK => ?_) ?_
        · go_simp; exact hK _ _ (hTi.out _ _ _ _ s_2_4_6)
        refine AllReadyIn.cons rfl (fun K hK => ?_) ?_
        · go_simp; exact hK _ _ (hTi.out _ _ _ _ s_2_6_7)
        exact AllReadyIn.nil
      have s_4_5 : T 13 #[false, false, false, false, true, true, false, false, false, false, false, false, false, false, false] { tmps := #[q15, .string m, .int .i64 s, .pointer (some ⟨w.heap.size, 0, none⟩), .pointer (some ⟨w.heap.size + 1, 0, none⟩), .pointer (some ⟨w.heap.size + 1 + 1, 0, none⟩), .slice none 0 0, .pointer (some ⟨w.heap.size + 1 + 1 + 1, 0, none⟩), ckVal m.size s w4.heap.size x, .pointer (some ⟨W.heap.size, 0, none⟩), .string m, q11, .int .i64 s, q13, ckVal m.size s w4.heap.size x, q15, undef, undef, undef, undef, .string m, .int .i64 m.size, undef, undef, undef, undef, undef, undef, undef, undef, undef, undef, undef], defers := [] } V0 := by
        refine hTo.out _ _ _ _ (wpAnyIn_ready (rs := [0, 2, 6]) (by kernel_rfl) (by simp) ?_)
        refine AllReadyIn.cons rfl (fun K hK => ?_) ?_
        · go_simp; exact hK _ _ (hTi.out _ _ _ _ s_0_4_5)
        refine AllReadyIn.cons rfl (fun K hK => ?_) ?_
        · go_simp; exact hK _ _ (hTi.out _ _ _ _ s_2_4_5)
        refine AllReadyIn.cons rfl (fun K hK => ?_) ?_
        · go_simp; exact hK _ _ (hTi.out _ _ _ _ s_4_5_6)
        exact AllReadyIn.nil
      have s_4_6 : T 13 #[false, false, false, false, true, false, true, false, false, false, false, false, false, false, false] { tmps := #[q15, .string m, .int .i64 s, .pointer (some ⟨w.heap.size, 0, none⟩), .pointer (some ⟨w.heap.size + 1, 0, none⟩), .pointer (some ⟨w.heap.size + 1 + 1, 0, none⟩), .slice none 0 0, .pointer (some ⟨w.heap.size + 1 + 1 + 1, 0, none⟩), ckVal m.size s w4.heap.size x, .pointer (some ⟨W.heap.size, 0, none⟩), .string m, q11, .int .i64 s, q13, ckVal m.size s w4.heap.size x, q15, undef, undef, undef, undef, .string m, undef, ckVal m.size s w4.heap.size x, undef, undef, undef, undef, undef, undef, undef, undef, undef, undef], defers := [] } V0 := by
        refine hTo.out _ _ _ _ (wpAnyIn_ready (rs := [0, 2, 5, 7]) (by kernel_rfl) (by simp) ?_)
        refine AllReadyIn.cons rfl (fun K hK => ?_) ?_
        · go_simp; exact hK _ _ (hTi.out _ _ _ _ s_0_4_6)
        refine AllReadyIn.cons rfl (fun K hK => ?_) ?_
        · go_simp; exact hK _ _ (hTi.out _ _ _ _ s_2_4_6)
        refine AllReadyIn.cons rfl (fun K hK => ?_) ?_
        · go_simp; exact hK _ _ (hTi.out _ _ _ _ s_4_5_6)
        refine AllReadyIn.cons rfl (fun K hK => ?_) ?_
        · go_simp; exact hK _ _ (hTi.out _ _ _ _ s_4_6_7)
        exact AllReadyIn.nil
      have s_6_7 : T 13 #[false, false, false, false, false, false, true, true, false, false, false, false, false, false, false] { tmps := #[q15, .string m, .int .i64 s, .pointer (some ⟨w.heap.size, 0, none⟩), .pointer (some ⟨w.heap.size + 1, 0, none⟩), .pointer (some ⟨w.heap.size + 1 + 1, 0, none⟩), .slice none 0 0, .pointer (some ⟨w.heap.size + 1 + 1 + 1, 0, none⟩), ckVal m.size s w4.heap.size x, .pointer (some ⟨W.heap.size, 0, none⟩), .string m, q11, .int .i64 s, q13, ckVal m.size s w4.heap.size x, q15, undef, undef, undef, undef, undef, undef, ckVal m.size s w4.heap.size x, .string d, undef, undef, undef, undef, undef, undef, undef, undef, undef], defers := [] } V0 := by
        refine hTo.out _ _ _ _ (wpAnyIn_ready (rs := [0, 2, 4]) (by kernel_rfl) (by simp) ?_)
        refine AllReadyIn.cons rfl (fun K hK => ?_) ?_
        · go_simp; exact hK _ _ (hTi.out _ _ _ _ s_0_6_7)
        refine AllReadyIn.cons rfl (fun K hK => ?_) ?_
        · go_simp; exact hK _ _ (hTi.out _ _ _ _ s_2_6_7)
        refine AllReadyIn.cons rfl (fun K hK => ?_) ?_
        · go_simp; exact hK _ _ (hTi.out _ _ _ _ s_4_6_7)
        exact AllReadyIn.nil
      have s_0 : T 14 #[true, false, false, false, false, false, false, false, false, false, false, false, false, false, false] { tmps := #[q15, .string m, .int .i64 s, .pointer (some ⟨w.heap.size, 0, none⟩), .pointer (some ⟨w.heap.size + 1, 0, none⟩), .pointer (some ⟨w.heap.size + 1 + 1, 0, none⟩), .slice none 0 0, .pointer (some ⟨w.heap.size + 1 + 1 + 1, 0, none⟩), ckVal m.size s w4.heap.size x, .pointer (some ⟨W.heap.size, 0, none⟩), .string m, q11, .int .i64 s, q13, ckVal m.size s w4.heap.size x, q15, .slice A pre.length c, undef, undef, undef, undef, undef, undef, undef, undef, undef, undef, undef, undef, undef, undef, undef, undef], defers := [] } V0 := by
        refine hTo.out _ _ _ _ (wpAnyIn_ready (rs := [1, 2, 4, 6]) (by kernel_rfl) (by simp) ?_)
        refine AllReadyIn.cons rfl (fun K hK => ?_) ?_
        · go_simp; exact hK _ _ (hTi.out _ _ _ _ s_0_1)
        refine AllReadyIn.cons rfl (fun K hK => ?_) ?_
        · go_simp; exact hK _ _ (hTi.out _ _ _ _ s_0_2)
        refine AllReadyIn.cons rfl (fun K hK => ?_) ?_
        · go_simp; exact hK _ _ (hTi.out _ _ _ _ s_0_4)
        refine AllReadyIn.cons rfl (fun K hK => ?_) ?_
        · go_simp; exact hK _ _ (hTi.out _ _ _ _ s_0_6)
        exact AllReadyIn.nil
      have s_2 : T 14 #[false, false, true, false, false, false, false, false, false, false, false, false, false, false, false] { tmps := #[q15, .string m, .int .i64 s, .pointer (some ⟨w.heap.size, 0, none⟩), .pointer (some ⟨w.heap.size + 1, 0, none⟩), .pointer (some ⟨w.heap.size + 1 + 1, 0, none⟩), .slice none 0 0, .pointer (some ⟨w.heap.size + 1 + 1 + 1, 0, none⟩), ckVal m.size s w4.heap.size x, .pointer (some ⟨W.heap.size, 0, none⟩), .string m, q11, .int .i64 s, q13, ckVal m.size s w4.heap.size x, q15, undef, undef, .int .i64 s, undef, undef, undef, undef, undef, undef, undef, undef, undef, undef, undef, undef, undef, undef], defers := [] } V0 := by
        refine hTo.out _ _ _ _ (wpAnyIn_ready (rs := [0, 4, 6]) (by kernel_rfl) (by simp) ?_)
        refine AllReadyIn.cons rfl (fun K hK => ?_) ?_
        · go_simp; exact hK _ _ (hTi.out _ _ _ _ s_0_2)
        refine AllReadyIn.cons rfl (fun K hK => ?_) ?_
        · go_simp; exact hK _ _ (hTi.out _ _ _ _ s_2_4)
        refine AllReadyIn.cons rfl (fun K hK => ?_) ?_
        · go_simp; exact hK _ _ (hTi.out _ _ _ _ s_2_6)
        exact AllReadyIn.nil
      have s_4 : T 14 #[false, false, false, false, true, false, false, false, false, false, false, false, false, false, false] { tmps := #[q15, .string m, .int .i64 s, .pointer (some ⟨w.heap.size, 0, none⟩), .pointer (some ⟨w.heap.size + 1, 0, none⟩), .pointer (some ⟨w.heap.size + 1 + 1, 0, none⟩), .slice none 0 0, .pointer (some ⟨w.heap.size + 1 + 1 + 1, 0, none⟩), ckVal m.size s w4.heap.size x, .pointer (some ⟨W.heap.size, 0, none⟩), .string m, q11, .int .i64 s, q13, ckVal m.size s w4.heap.size x, q15, undef, undef, undef, undef, .string m, undef, undef, undef, undef, undef, undef, undef, undef, undef, undef, undef, undef], defers := [] } V0 := by
        refine hTo.out _ _ _ _ (wpAnyIn_ready (rs := [0, 2, 5, 6]) (by kernel_rfl) (by simp) ?_)
        refine AllReadyIn.cons rfl (fun K hK => ?_) ?_
        · go_simp; exact hK _ _ (hTi.out _ _ _ _ s_0_4)
        refine AllReadyIn.cons rfl (fun K hK => ?_) ?_
        · go_simp; exact hK _ _ (hTi.out _ _ _ _ s_2_4)
        refine AllReadyIn.cons rfl (fun K hK => ?_) ?_
        · go_simp; exact hK _ _ (hTi.out _ _ _ _ s_4_5)
        refine AllReadyIn.cons rfl (fun K hK => ?_) ?_
        · go_simp; exact hK _ _ (hTi.out _ _ _ _ s_4_6)
        exact AllReadyIn.nil
      have s_6 : T 14 #[false, false, false, false, false, false, true, false, false, false, false, false, false, false, false] { tmps := #[q15, .string m, .int .i64 s, .pointer (some ⟨w.heap.size, 0, none⟩), .pointer (some ⟨w.heap.size + 1, 0, none⟩), .pointer (some ⟨w.heap.size + 1 + 1, 0, none⟩), .slice none 0 0, .pointer (some ⟨w.heap.size + 1 + 1 + 1, 0, none⟩), ckVal m.size s w4.heap.size x, .pointer (some ⟨W.heap.size, 0, none⟩), .string m, q11, .int .i64 s, q13, ckVal m.size s w4.heap.size x, q15, undef, undef, undef, undef, undef, undef, ckVal m.size s w4.heap.size x, undef, undef, undef, undef, undef, undef, undef, undef, undef, undef], defers := [] } V0 := by
        refine hTo.out _ _ _ _ (wpAnyIn_ready (rs := [0, 2, 4, 7]) (by kernel_rfl) (by simp) ?_)
        refine AllReadyIn.cons rfl (fun K hK => ?_) ?_
        · go_simp; exact hK _ _ (hTi.out _ _ _ _ s_0_6)
        refine AllReadyIn.cons rfl (fun K hK => ?_) ?_
        · go_simp; exact hK _ _ (hTi.out _ _ _ _ s_2_6)
        refine AllReadyIn.cons rfl (fun K hK => ?_) ?_
        · go_simp; exact hK _ _ (hTi.out _ _ _ _ s_4_6)
        refine AllReadyIn.cons rfl (fun K hK => ?_) ?_
        · go_simp; exact hK _ _ (hTi.out _ _ _ _ s_6_7)
        exact AllReadyIn.nil
      refine hTo.out _ _ _ _ (wpAnyIn_ready (rs := [0, 2, 4, 6]) (by kernel_rfl) (by simp) ?_)
      refine AllReadyIn.cons rfl (fun K hK => ?_) ?_
      · go_simp; exact hK _ _ (hTi.out _ _ _ _ s_0)
      refine AllReadyIn.cons rfl (fun K hK => ?_) ?_
      · go_simp; exact hK _ _ (hTi.out _ _ _ _ s_2)
      refine AllReadyIn.cons rfl (fun K hK => ?_) ?_
      · go_simp; exact hK _ _ (hTi.out _ _ _ _ s_4)
      refine AllReadyIn.cons rfl (fun K hK => ?_) ?_
      · go_simp; exact hK _ _ (hTi.out _ _ _ _ s_6)
      exact AllReadyIn.nil
  case done =>
    rintro D ys W hD hys ⟨⟨v, hv, hrow, _⟩, hB, hk⟩ hK
    have hc := hv.cell
    have hwD : w.heap.size ≤ D := by omega
    clear hz4 hz5 hz6
    gi_wp2
    refine ⟨by simp, .inl ⟨_, _, rfl, run_takeDeferred hK, ?_⟩⟩
    have hfin : Below w.heap.size w (W.putObj D (.deferred none)) := (hBw6.trans (hB.mono (Nat.le_refl _))).trans (belowK_b (w := w) (Nat.le_refl _) W D (.deferred (some [])) (.deferred none) hwD hK rfl rfl)
    refine ⟨_, results_tmp rfl _ _ _, v, rfl, ?_, hfin⟩
    have hlen : (fragsOf h m s).length = ys.length := by rw [← frL_all h m s ys hys, frL_len]
    have := ownsRow_putObj hrow (o := .deferred (some [])) (.deferred none) hK rfl
    rw [frL_all h m s ys hys] at this
    rw [hlen]
    exact own_mono this hBw6.size
  case stop =>
    rintro D c pre W _ _ h _
    exact h.elim
theorem fragments_any (h : Bn) (m : ByteArray) (s : Nat) (hs : 1 ≤ s ∧ s ≤ 1000) (hM : m.size ≤ 20000) (w : World) :
    Calls Try.prog 33 #[h.val, .string m, .int .i64 s] w fun e w' => ∃ v, e = .returned v ∧ BnAt w' v (fragsOf h m s) ∧ Below w.heap.size w w' :=
  (fragments_own h m s hs hM w).mono fun e w' ⟨v, h1, h2, h3⟩ => ⟨v, h1, SlAt.own h2, h3⟩
end Go.Proofs.Ytcifngefclgefaa
