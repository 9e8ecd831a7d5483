/- A frame is put under way. -/
import Derived.Test.YtfgkkflbpfocjaaZc33
namespace Go.Proofs.Ytfgkkflbpfocjaa
open Go.RowKit
open List renaming getElem_toArray → zz1, getElem_cons_succ → zz2, getElem_cons_zero → zz3, setIfInBounds_toArray → zz4, set_cons_zero → zz5, set_cons_succ → zz6
set_option linter.unusedVariables false
set_option linter.unusedSimpArgs false

theorem step_app1n {P : Program} {α : Type} {f : α → List Value} {ops : Array Oper} {o : Oper} {a : Act} {K : Act → World → Prop} {Q : Exit → Act → World → Prop} {E : Prop} (hgd : o.guard = none) (s x : Operand) (t : TypeId)
    (ho : o.op = .call { callee := .builtin .append, args := #[s, x], argTypes := #[t, t] }) (base : Nat) (e : TypeId) {z : Value} (k bytes : Nat) (hi : (P.info? e).map (fun i => (i.zero, i.size, i.bytes)) = some (some z, k, bytes))
    (hzk : z.cells.size = k) (hk : 0 < k) (ht : P.underlying t = some (.slice e)) (hf : ∀ x, (f x).length = k) (h1 : ∀ x, ∀ u ∈ f x, u.oneCell' = true) (w w0 : World) (B : Nat) (y : α) (L : List α) (v : Value) (g : Nat) (hs : a.eval s = v)
    (hx : a.eval x = .slice (some ⟨g, 0, none⟩) 1 1) (hg : Blk w g e (f y).toArray) (hown : w.ownsRow base e k v L.length (fl f L)) (hB : Below B w0 w) (hb : B ≤ base) (hbw : base ≤ w.heap.size) (hL : (L.length + 1) * bytes ≤ 140737488355328) (hL2 : L.length + 1 ≤ maxLen)
    (hK : ∀ A c w', w'.ownsRow base e k (.slice A (L.length + 1) c) (L ++ [y]).length (fl f (L ++ [y])) → Below B w0 w' → w.grownBy w' v.ownBlock → (∀ k, (Value.slice A (L.length + 1) c).ownBlock = some k → v.ownBlock = some k ∨ w.heap.size ≤ k) → K (a.put o.dst (.slice A (L.length + 1) c)) w') :
    if Region.wanted o (yielded ops a.tmps) = true then Oper.wp P o a w K Q else E := by
  have hw : Region.wanted o (yielded ops a.tmps) = true := by simp [Region.wanted, hgd]
  rw [if_pos hw]
  obtain ⟨i0, hi0, hz0, hz1, hz2⟩ := info_parts hi
  have hnl : (f y).length = 1 * k := by rw [hf, Nat.one_mul]
  have hnc : ∀ j u, (f y)[j]? = some u → w.cell? ((⟨g, 0, none⟩ : Addr).add j) = some u := fun j u hj => by
    have := hg.cell j
    rw [List.getElem?_toArray, hj] at this
    by_cases h : j = 0
    · subst h; exact this
    · rw [show ((⟨g, 0, none⟩ : Addr).add j) = ⟨g, j, none⟩ from by simp [Addr.add, h]]; exact this
  obtain ⟨v', w', hr, hown', hgr, _⟩ := run_append_own (P := P) w base t o.type e i0 z k bytes ht hi0 hz0 hz1 hz2 hzk hk v L.length (fl f L) hown ⟨g, 0, none⟩ 1 1 (f y) hnl hnc (h1 y) hL2 hL hbw
  have hnew := append_lies ht hi0 hz0 hz1 hz2 hzk hk hown hnl hnc (h1 y) hL2 hL hr
  have e1 : fl f (L ++ [y]) = fl f L ++ f y := by rw [fl_app, fl_one]
  have hown2 : w'.ownsRow base e k v' (L ++ [y]).length (fl f (L ++ [y])) := by rw [e1, List.length_append, List.length_singleton]; exact hown'
  obtain ⟨A, c, rfl, _⟩ := SlAt.own hown'
  simp [Oper.wp, execOp, ho, resolve, invoke, builtin, hs, hx, hr, Result.andThen]
  refine hK A c w' hown2 (hB.grown hgr (by omega) fun q hq => ?_) hgr hnew
  have := (hown.lt q hq).1
  omega
theorem fill_fr (f : Fr) : Instr.fill (fun i => some (i * 19, 19)) ((Array.range (1 * 19)).map (zFr.val.cells[· % zFr.val.cells.size]!)) [(0, .agg f.cells.toArray)] = some f.cells.toArray := by kernel_rfl
theorem bs_fr {o : Oper} {a : Act} {w : World} {K : Act → World → Prop} {Q : Exit → Act → World → Prop} (x : Operand) (ho : o.op = .buildSlice 40 1 #[(0, x)]) (f : Fr) (hx : a.eval x = .agg f.cells.toArray)
    (h : K (a.put o.dst (.slice (some ⟨w.heap.size, 0, none⟩) 1 1)) (w.alloc (.cells f.cells.toArray 51))) : o.wp Try.prog a w K Q := by
  obtain ⟨i0, hi0, hz0, hz1, hz2⟩ := info_parts infoFr
  refine wp_buildSlice 40 51 1 #[(0, x)] ho f.cells.toArray i0 _ Try.underlying40 hi0 hz0 (by rw [hz1]; decide) (by rw [hz1]; decide) ?_ h
  rw [hz1]
  have e : ((#[(0, x)] : Array (Nat × Operand)).map fun (i, x) => (i, a.eval x)).toList = [(0, .agg f.cells.toArray)] := by simp [hx]
  rw [e]
  exact fill_fr f
theorem RowN.grown {X : Nat → Prop} {w w' : World} {k : Nat} {v : Value} {n : Nat} {xs : List Value} (h : RowN X w k v n xs) {row : Option Nat} (hg : w.grownBy w' row) (hX : ∀ b, row = some b → X b) : RowN X w' k v n xs := by
  obtain ⟨A, c, e, h1, h2, h3, h4⟩ := h
  refine ⟨A, c, e, h1, h2, h3, fun hn => ?_⟩
  obtain ⟨b, o, e, h, h5, h6⟩ := h4 hn
  exact ⟨b, o, e, h, Nat.lt_of_lt_of_le h5 hg.size, fun j x hj => (World.cell?_of_block (hg.block b h5 (fun e => h (hX b e.symm)))).trans (h6 j x hj)⟩
theorem PrN.grown {X : Nat → Prop} {w w' : World} {V : Value} {p : Pr} (h : PrN X w V p) {row : Option Nat} (hg : w.grownBy w' row) (hX : ∀ b, row = some b → X b) : PrN X w' V p := by
  obtain ⟨As, cs, At, ct, Ak, ck, rfl, h1, h2, h3⟩ := h
  exact ⟨_, _, _, _, _, _, rfl, h1.grown hg hX, h2.grown hg hX, h3.grown hg hX⟩
theorem PX.app {w w' : World} {xb : Nat} {S R : Array Value} {bs br : Int} {Vw V' : Value} {p q : Pr} {way way' : List Fr} (h : PX NoE w xb S R bs br Vw p q way) (hg : w.grownBy w' Vw.ownBlock)
    (hl : ∀ k, V'.ownBlock = some k → Vw.ownBlock = some k ∨ w.heap.size ≤ k) (ho : w'.ownsRow (xb + 1) 51 19 V' way'.length (fl Fr.cells way')) : PX NoE (w'.setCell ⟨xb, 28, none⟩ V') xb S R bs br V' p q way' := by
  have hX : ∀ b, b < w.heap.size → (Xp xb Vw NoE b ∨ V'.ownBlock = some b) → Xp xb Vw NoE b := fun b hb c => by
    rcases c with a | a
    · exact a
    · rcases hl b a with d | d
      · exact .inr (.inl d)
      · omega
  have hY : ∀ {w : World} b, b < w.heap.size → Xp xb V' NoE b → (Xp xb Vw NoE b ∨ V'.ownBlock = some b) := fun b _ c => by
    rcases c with a | a | a
    · exact .inl (.inl a)
    · exact .inr a
    · exact absurd a id
  have hr : ∀ b, Vw.ownBlock = some b → (Xp xb Vw NoE b ∨ V'.ownBlock = some b) := fun b e => .inl (.inr (.inl e))
  have hb := (h.b.grown hg (own_ne_low h.o (Nat.lt_succ_self _))).set 28 V'
  rw [wr_w h.s.size h.r.size] at hb
  have hk : V'.ownBlock ≠ some xb := fun c => by have := (ho.lt _ c).1; omega
  exact ⟨hb, (((h.s.more hX).grown hg hr).more hY).set (g := xb) (.inl rfl) 28 V', (((h.r.more hX).grown hg hr).more hY).set (g := xb) (.inl rfl) 28 V',
    ho.kept (row := some xb) ⟨rfl, rfl, rfl, by simp [World.setCell], fun k _ hk => Below.heap_setCell _ _ _ _ (fun e => hk (by rw [e]))⟩ (.inr hk), fun _ c => absurd c id⟩
def PutPost (xb : Nat) (S R : Array Value) (bs br : Int) (p q : Pr) (way : List Fr) (f : Fr) (er : Int) (w : World) (e : Ending) (w' : World) : Prop := e = .returned (.bool (er == 0 || er == 13)) ∧ Below xb w w' ∧ ∃ A' c' way', (way' = way ∨ (er = 0 ∧ way' = way ++ [f] ∧ way'.length ≤ 40)) ∧ PX NoE w' xb S R bs br (.slice A' way'.length c') p q way'

set_option maxRecDepth 100000 in
set_option maxHeartbeats 8000000 in
theorem put_any (xb : Nat) (S R : Array Value) (bs br : Int) (A : Option Addr) (c : Nat) (p q : Pr) (way : List Fr) (f : Fr) (er : Int) (w : World) (hwl : way.length ≤ 1000) (hp : PX NoE w xb S R bs br (.slice A way.length c) p q way) :
    Calls Try.prog 45 #[.pointer (some ⟨xb, 0, none⟩), f.val, .int .i64 er] w (PutPost xb S R bs br p q way f er w) := by
  rw [fr_val]
  obtain ⟨C, hC⟩ : ∃ C, f.cells.toArray = C := ⟨_, rfl⟩
  have HCS : Hid (C.size = 19) := Lib.hid (by rw [← hC]; rfl)
  rw [hC]
  have HC := Lib.hid hC.symm
  clear hC
  have HSZ := Lib.hid (And.intro hp.s.size hp.r.size)
  have NG4 : Hid (some w.heap.size ≠ (Value.slice A way.length c).ownBlock) := Lib.hid (own_ne_new hp.o)
  have NX : Hid (w.heap.size ≠ xb) := Lib.hid (by have := hp.lt; omega)
  go_enter Try.func45, Try.ntmps45
  go_upto_region 1 with fail
  have k4 := Blk.new w 51 C
  have h := hp.alloc (.cells C 51)
  have hB : Below xb w (w.alloc (.cells C 51)) := (Below.refl w.heap.size w |>.mono (Nat.le_of_lt hp.lt)).alloc (Nat.le_of_lt hp.lt) _
  generalize w.alloc (.cells C 51) = w1 at k4 h hB ⊢
  obtain ⟨g4, hg4⟩ : ∃ g4, w.heap.size = g4 := ⟨_, rfl⟩
  rw [hg4] at k4 NG4 NX ⊢
  clear hg4 hp
  have c28 := h.c28
  by_cases he : er = 0
  · subst he
    by_cases h40 : way.length < 40
    · have h40i : (way.length : Int) < 40 := by omega
      go_upto_region 2 with fail
      clear c28
      refine wp_region_held_drew (S := fun wy => Below xb w wy ∧ Blk wy g4 51 C) (by kernel_rfl) ⟨hB.drew, k4.drew⟩ (fun hH => ?_)
      have hpx := h.drew
      generalize w1.drew = x0 at hH hpx ⊢
      clear h hB k4
      refine tkH 0 rfl (yieldsIf_pure _ (.pointer (some ⟨xb, 0, none⟩)) rfl (.inl rfl) rfl) hH ?_
      try simp only [zz1, zz2, zz3, Act.put, zz4, zz5, zz6]
      refine tkH 1 rfl (yieldsIf_pure _ (.pointer (some ⟨xb, 0, none⟩)) rfl (.inl rfl) rfl) hH ?_
      try simp only [zz1, zz2, zz3, Act.put, zz4, zz5, zz6]
      refine tkH 2 rfl (yieldsIf_cell (.pointer (some ⟨xb, 0, none⟩)) rfl (fun w h => rfl)) hH ?_
      try simp only [zz1, zz2, zz3, Act.put, zz4, zz5, zz6]
      refine tkH 3 rfl (yieldsIf_cell (.pointer (some ⟨xb, 28, none⟩)) rfl (fun w h => by go_simp)) hH ?_
      try simp only [zz1, zz2, zz3, Act.put, zz4, zz5, zz6]
      refine tkH 5 rfl (yieldsIf_row (g4) 51 C 51 _ _ rfl rfl rfl (fun w h => h.2) Try.underlying51 rfl (by rw [HCS.out]; kernel_rfl)) hH ?_
      try simp only [zz1, zz2, zz3, Act.put, zz4, zz5, zz6]
      refine rdH [4, 6] ?_
      refine AllReadyH.cons rfl (fun KK hK => ?_) ?_
      · rw [if_pos (by rfl)]
        have j0 := hpx.c28
        go_simp
        clear j0
        refine hK.out _ _ hH (fun hH1 => ?_)
        clear hK KK
        try simp only [zz1, zz2, zz3, Act.put, zz4, zz5, zz6]
        refine rdH [6] ?_
        refine c1H rfl fun KK hK => ?_
        rw [if_pos (by rfl)]
        refine bs_fr (.tmp 22) rfl f (congrArg Value.agg HC.out) ?_
        rw [← HC.out]
        have kl2 := Blk.new x0 51 C
        have px2 := hpx.alloc (.cells C 51)
        have hc2 : Below xb w (x0.alloc (.cells C 51)) ∧ Blk (x0.alloc (.cells C 51)) g4 51 C := ⟨hH1.1.alloc (Nat.le_of_lt hpx.lt) (.cells C 51), hH1.2.alloc (.cells C 51)⟩
        generalize x0.alloc (.cells C 51) = y2 at hc2 kl2 px2 ⊢
        generalize x0.heap.size = g2 at kl2 ⊢
        refine hK.out _ _ hc2 (fun hH2 => ?_)
        clear hc2 hpx
        clear hK KK
        try simp only [zz1, zz2, zz3, Act.put, zz4, zz5, zz6]
        refine rdH [7] ?_
        refine c1H rfl fun KK hK => ?_
        refine step_app1n (f := Fr.cells) rfl (.tmp 21) (.tmp 23) 40 rfl (xb + 1) 51 19 160 infoFr rfl (by decide) Try.underlying40 fr19 fr_one y2 w xb f way (.slice A way.length c) g2 rfl rfl (HC.out ▸ kl2) px2.o hH2.1 (Nat.le_succ _) px2.lt (by omega) (by unfold maxLen; omega) (fun A2 c2 W2 h2 h3 h4 h5 => ?_)
        have hg4 := hH2.2.grown h4 NG4.out
        have HB2 := Lib.hid (px2.b.grown h4 (own_ne_low px2.o (Nat.lt_succ_self _)))
        have HA2 := Lib.hid (PX.app px2 h4 h5 h2)
        clear h2 h4 h5
        refine hK.out _ _ ⟨h3, hg4⟩ (fun hH3 => ?_)
        clear hK KK
        try simp only [zz1, zz2, zz3, Act.put, zz4, zz5, zz6]
        refine tkH 8 rfl (yieldsIf_cell (.pointer (some ⟨xb, 0, none⟩)) rfl (fun w h => rfl)) hH3 ?_
        try simp only [zz1, zz2, zz3, Act.put, zz4, zz5, zz6]
        refine tkH 9 rfl (yieldsIf_cell (.pointer (some ⟨xb, 28, none⟩)) rfl (fun w h => by go_simp)) hH3 ?_
        try simp only [zz1, zz2, zz3, Act.put, zz4, zz5, zz6]
        refine rdH [10] ?_
        refine c1H rfl fun KK hK => ?_
        rw [if_pos (by rfl)]
        have j0 : W2.cell? ⟨xb, 28, none⟩ = some (.slice A way.length c) := by rw [HB2.out.cell]; exact (mkP_e HSZ.out.1 HSZ.out.2 2).trans rfl
        have j1 := HB2.out.frozen 28
        go_simp
        clear j0 j1
        refine hK.out _ _ ⟨hH3.1.setCell (p := ⟨xb, 28, none⟩) (Nat.le_refl _) _, hH3.2.far (p := ⟨xb, 28, none⟩) NX.out _⟩ (fun hH4 => ?_)
        clear hK KK
        try simp only [zz1, zz2, zz3, Act.put, zz4, zz5, zz6]
        refine wpAnyH_done (by kernel_rfl) ?_ _
        go_wp2_with fail
        refine bodyPost_ret (v := .bool true) (by simp [results, Try.results45, go_sem]) rfl ?_
        refine ⟨rfl, hH4.1, A2, c2, way ++ [f], .inr ⟨rfl, rfl, by rw [List.length_append, List.length_singleton]; omega⟩, ?_⟩
        have q := HA2.out
        have e : way.length + 1 = (way ++ [f]).length := by simp
        rw [e] at q ⊢
        exact q
      refine AllReadyH.cons rfl (fun KK hK => ?_) ?_
      · rw [if_pos (by rfl)]
        refine bs_fr (.tmp 22) rfl f (congrArg Value.agg HC.out) ?_
        rw [← HC.out]
        have kl5 := Blk.new x0 51 C
        have px5 := hpx.alloc (.cells C 51)
        have hc5 : Below xb w (x0.alloc (.cells C 51)) ∧ Blk (x0.alloc (.cells C 51)) g4 51 C := ⟨hH.1.alloc (Nat.le_of_lt hpx.lt) (.cells C 51), hH.2.alloc (.cells C 51)⟩
        generalize x0.alloc (.cells C 51) = y5 at hc5 kl5 px5 ⊢
        generalize x0.heap.size = g5 at kl5 ⊢
        refine hK.out _ _ hc5 (fun hH5 => ?_)
        clear hc5 hpx
        clear hK KK
        try simp only [zz1, zz2, zz3, Act.put, zz4, zz5, zz6]
        refine rdH [4] ?_
        refine c1H rfl fun KK hK => ?_
        rw [if_pos (by rfl)]
        have j0 := px5.c28
        go_simp
        clear j0
        refine hK.out _ _ hH5 (fun hH6 => ?_)
        clear hK KK
        try simp only [zz1, zz2, zz3, Act.put, zz4, zz5, zz6]
        refine rdH [7] ?_
        refine c1H rfl fun KK hK => ?_
        refine step_app1n (f := Fr.cells) rfl (.tmp 21) (.tmp 23) 40 rfl (xb + 1) 51 19 160 infoFr rfl (by decide) Try.underlying40 fr19 fr_one y5 w xb f way (.slice A way.length c) g5 rfl rfl (HC.out ▸ kl5) px5.o hH6.1 (Nat.le_succ _) px5.lt (by omega) (by unfold maxLen; omega) (fun A2 c2 W2 h2 h3 h4 h5 => ?_)
        have hg4 := hH6.2.grown h4 NG4.out
        have HB2 := Lib.hid (px5.b.grown h4 (own_ne_low px5.o (Nat.lt_succ_self _)))
        have HA2 := Lib.hid (PX.app px5 h4 h5 h2)
        clear h2 h4 h5
        refine hK.out _ _ ⟨h3, hg4⟩ (fun hH7 => ?_)
        clear hK KK
        try simp only [zz1, zz2, zz3, Act.put, zz4, zz5, zz6]
        refine tkH 8 rfl (yieldsIf_cell (.pointer (some ⟨xb, 0, none⟩)) rfl (fun w h => rfl)) hH7 ?_
        try simp only [zz1, zz2, zz3, Act.put, zz4, zz5, zz6]
        refine tkH 9 rfl (yieldsIf_cell (.pointer (some ⟨xb, 28, none⟩)) rfl (fun w h => by go_simp)) hH7 ?_
        try simp only [zz1, zz2, zz3, Act.put, zz4, zz5, zz6]
        refine rdH [10] ?_
        refine c1H rfl fun KK hK => ?_
        rw [if_pos (by rfl)]
        have j0 : W2.cell? ⟨xb, 28, none⟩ = some (.slice A way.length c) := by rw [HB2.out.cell]; exact (mkP_e HSZ.out.1 HSZ.out.2 2).trans rfl
        have j1 := HB2.out.frozen 28
        go_simp
        clear j0 j1
        refine hK.out _ _ ⟨hH7.1.setCell (p := ⟨xb, 28, none⟩) (Nat.le_refl _) _, hH7.2.far (p := ⟨xb, 28, none⟩) NX.out _⟩ (fun hH8 => ?_)
        clear hK KK
        try simp only [zz1, zz2, zz3, Act.put, zz4, zz5, zz6]
        refine wpAnyH_done (by kernel_rfl) ?_ _
        go_wp2_with fail
        refine bodyPost_ret (v := .bool true) (by simp [results, Try.results45, go_sem]) rfl ?_
        refine ⟨rfl, hH8.1, A2, c2, way ++ [f], .inr ⟨rfl, rfl, by rw [List.length_append, List.length_singleton]; omega⟩, ?_⟩
        have q := HA2.out
        have e : way.length + 1 = (way ++ [f]).length := by simp
        rw [e] at q ⊢
        exact q
      exact AllReadyH.nil
    · have h40i : ¬ (way.length : Int) < 40 := by omega
      go_wp2_with fail
      refine bodyPost_ret (v := .bool true) (by simp [results, Try.results45, go_sem]) rfl ?_
      exact ⟨rfl, hB, A, c, way, .inl rfl, h⟩
  · have e1 : (er == 0) = false := by simpa using he
    by_cases he3 : er = 13
    · subst he3
      go_wp2_with fail
      refine bodyPost_ret (v := .bool true) (by simp [results, Try.results45, go_sem]) rfl ?_
      exact ⟨rfl, hB, A, c, way, .inl rfl, h⟩
    · have e2 : (er == 13) = false := by simpa using he3
      have HV : Hid ((er == 0 || er == 13) = false) := Lib.hid (by rw [e1, e2]; rfl)
      go_wp2_with fail
      refine bodyPost_ret (v := .bool false) (by simp [results, Try.results45, go_sem]) rfl ?_
      exact ⟨by rw [HV.out], hB, A, c, way, .inl rfl, h⟩
end Go.Proofs.Ytfgkkflbpfocjaa

