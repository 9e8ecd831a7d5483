/- A frame arrives. -/
import Derived.Test.YtfgkkflbpfocjaaZc37
import Derived.Test.YtfgkkflbpfocjaaZc41
namespace Go.Proofs.Ytfgkkflbpfocjaa
open Go.RowKit
open List renaming getElem_toArray → zz1, getElem_cons_succ → zz2, getElem_cons_zero → zz3, setIfInBounds_toArray → zz4, set_cons_zero → zz5, set_cons_succ → zz6
set_option linter.unusedVariables false
set_option linter.unusedSimpArgs false

/-- the pair is as it should be -/
def GW (i bs br : Int) (xb : Nat) (w' : World) : Prop := ∃ st su ss rt ru ro rr way S R A c, Inv i st su ss rt ru ro rr bs br way ∧ WY way ∧ way.length ≤ 40 ∧ PX NoE w' xb S R bs br (.slice A way.length c) (sP st su ss) (rP rt ru ro rr) way
def ActPost (i : Int) (xb : Nat) (w : World) (e : Ending) (w' : World) : Prop := e = .returned (.bool true) ∧ Below xb w w' ∧ ∃ bs br, GW i bs br xb w'
def MetPost (p : Pr) (v : Int) (ow : Bool) (w : World) (e : Ending) (w' : World) : Prop := ∃ C : Array Value, e = .returned (.tuple #[.agg C, .int .i64 v, .bool ow, .int .i64 0]) ∧ PrB w.heap.size w' (.agg C) p ∧ Below w.heap.size w w'
def FePost (D : Array Value) (er : Int) (w : World) (e : Ending) (w' : World) : Prop := e = .returned (.tuple #[.agg D, .int .i64 er]) ∧ Below w.heap.size w w'
theorem yS {ops : Array Oper} {S' : World → Prop} {op : Oper} {a : Act} (hw : Region.wanted op (yielded ops a.tmps) = true) (x : Operand) (ho : op.op = .load 31 x) (b o : Nat) (hx : a.eval x = .pointer (some ⟨b, o, none⟩)) (S : Array Value) (hS : ∀ w, S' w → w.rangeAt b o S.toList) (hz : S.size = 13) : YieldsIf Try.prog ops S' op (.agg S) a :=
  yieldsIf_load_mid hw 31 x ho b o hx S.toList _ hS Try.underlying31 rfl (by rw [Array.length_toList, hz]; kernel_rfl)
theorem ldS {ops : Array Oper} {rest : List Oper} {op : Oper} {a : Act} {w : World} {Q : Exit → Act → World → Prop} (hgd : op.guard = none) (x : Operand) (ho : op.op = .load 31 x) (b o : Nat) (hx : a.eval x = .pointer (some ⟨b, o, none⟩)) (S : Array Value) (hc : w.rangeAt b o S.toList) (hz : S.size = 13)
    (h : wpList Try.prog ops Q rest (a.put op.dst (.agg S)) w) : wpList Try.prog ops Q (op :: rest) a w :=
  wpList_load_mid hgd 31 x ho b o hx S.toList _ hc Try.underlying31 rfl (by rw [Array.length_toList, hz]; kernel_rfl) h
theorem fr_all (f : Fr) : f.cells.toArray.all (·.oneCell') = true := all_oneCell_toArray (fr_one f)
section
variable {i st : Int} {su : Bool} {ss : Led} {rt : Int} {ru : Bool} {ro : Int} {rr : Rec} {bs br : Int} {way : List Fr} {xb : Nat} {S R : Array Value} {A : Option Addr} {c : Nat}
theorem put_act (hI : Inv i st su ss rt ru ro rr bs br way) (hy : WY way) (hwl : way.length ≤ 40) (f : Fr) (er : Int) (hf : er = 0 → FrI st ss rt ro rr bs br f ∧ 0 ≤ f.yours) (he : er = 0 ∨ er = 13) (w : World) (h : PX NoE w xb S R bs br (.slice A way.length c) (sP st su ss) (rP rt ru ro rr) way) :
    Calls Try.prog 45 #[.pointer (some ⟨xb, 0, none⟩), .agg f.cells.toArray, .int .i64 er] w (ActPost i xb w) := by
  refine (put_any xb S R bs br A c _ _ way f er w (by omega) h).mono ?_
  rintro e w' ⟨rfl, hb, A', c', way', hw, h'⟩
  refine ⟨by rcases he with rfl | rfl <;> rfl, hb, bs, br, ?_⟩
  rcases hw with rfl | ⟨h0, rfl, hl⟩
  · exact ⟨st, su, ss, rt, ru, ro, rr, _, S, R, A', c', hI, hy, hwl, h'⟩
  · exact ⟨st, su, ss, rt, ru, ro, rr, _, S, R, A', c', hI.put (hf h0).1, hy.put (hf h0).2, hl, h'⟩
theorem hello_sa (hI : Inv i st su ss rt ru ro rr bs br way) (V : Value) (w : World) (hV : PrAt w V (sP st su ss)) : Calls Try.prog 25 #[V, .int .i64 1, .int .u64 bs] w (FePost (frB (sP st su ss) 1 bs 1 0 0).cells.toArray 0 w) := by
  have q := Hello_any (sP st su ss) hI.wfS 1 bs V w hV hI.okS hI.bnS
  have e : begE (sP st su ss) 1 bs 1 = 0 := (hI.begS 1).trans (if_neg (fun c => c.1 rfl))
  unfold gfr at q
  rw [e, if_pos rfl] at q
  exact q
theorem hello_ra (hI : Inv i st su ss rt ru ro rr bs br way) (V : Value) (w : World) (hV : PrAt w V (rP rt ru ro rr)) : Calls Try.prog 25 #[V, .int .i64 2, .int .u64 br] w (FePost (frB (rP rt ru ro rr) 2 br 1 0 0).cells.toArray 0 w) := by
  have q := Hello_any (rP rt ru ro rr) hI.wfR 2 br V w hV hI.okR' hI.bnR
  have e : begE (rP rt ru ro rr) 2 br 1 = 0 := (hI.begR 1).trans (if_neg (fun c => c.1 rfl))
  unfold gfr at q
  rw [e, if_pos rfl] at q
  exact q
end

set_option maxRecDepth 100000 in
set_option maxHeartbeats 16000000 in
theorem arrive_any {i st : Int} {su : Bool} {ss : Led} {rt : Int} {ru : Bool} {ro : Int} {rr : Rec} {bs br : Int} {way : List Fr} (hI : Inv i st su ss rt ru ro rr bs br way) (hWY : WY way) (hwl : way.length ≤ 40) (f : Fr) (hf : f ∈ way) (size : Int)
    (xb : Nat) (S R : Array Value) (A : Option Addr) (c : Nat) (w : World) (h : PX NoE w xb S R bs br (.slice A way.length c) (sP st su ss) (rP rt ru ro rr) way) :
    Calls Try.prog 50 #[.pointer (some ⟨xb, 0, none⟩), f.val, .int .u64 size] w (ActPost i xb w) := by
  have hwf := hI.wfF hWY hf
  rw [fr_val]
  obtain ⟨C, hC⟩ : ∃ C, f.cells.toArray = C := ⟨_, rfl⟩
  have C0 : C[0]? = some (.int .i64 f.kind) := by rw [← hC]; rfl
  have C2 : C[2]? = some (.int .i64 f.to) := by rw [← hC]; rfl
  have C5 : C[5]? = some (.int .u64 f.a) := by rw [← hC]; rfl
  have HCS : Hid (C.size = 19) := Lib.hid (by rw [← hC]; rfl)
  rw [hC]
  have HC := Lib.hid hC
  have NX4 : Hid (¬ w.heap.size = xb) := Lib.hid (by have := h.lt; omega)
  rcases hwf.2.2 with hto | hto
  · obtain ⟨st', su', ss', v, ow, hmet, hI', hv3⟩ := hI.meetS hWY hf hto
    have MEET : Hid (∀ w, PrAt w (.agg S) (sP st su ss) → Calls Try.prog 18 #[.agg S, .int .u64 bs, .agg C] w (MetPost (sP st' su' ss') v ow w)) := Lib.hid (fun w hV => by
      have q := Meet_any (sP st su ss) hI.wfS bs f hwf.1 (.agg S) w hV (hI.metS hWY hf hto)
      have e1 : mtV (sP st su ss) bs f = (sP st' su' ss', v, ow) := by unfold mtV; rw [if_pos (hI.metS hWY hf hto)]; exact hmet
      rw [fr_val, hC, e1, hI.metS hWY hf hto] at q
      refine q.mono ?_
      rintro e w' ⟨V, rfl, hp, hb⟩
      obtain ⟨C', rfl⟩ := hp.agg
      exact ⟨C', rfl, hp, hb⟩)
    have HSZ := Lib.hid h.s.size
    rw [hto] at C2
    clear hmet hC hI hwf
    go_enter Try.func50, Try.ntmps50
    go_upto_region 1 with fail
    have kf := Blk.new w 51 C
    have hB : Below xb w (w.alloc (.cells C 51)) := (Below.refl w.heap.size w |>.mono (Nat.le_of_lt h.lt)).alloc (Nat.le_of_lt h.lt) _
    replace h := h.alloc (.cells C 51)
    generalize w.alloc (.cells C 51) = w1 at kf h hB ⊢
    obtain ⟨g4, hg4⟩ : ∃ g4, w.heap.size = g4 := ⟨_, rfl⟩
    rw [hg4] at kf NX4 ⊢
    clear hg4
    have q2 := (kf.cell 2).trans C2
    go_upto_region 2 with fail
    clear q2
    go_cut [7, 8, 9, 10] (fun s7 s8 s9 s10 wx => ∃ (gz : Nat) (Cm : Array Value), s7 = .pointer (some ⟨gz, 0, none⟩) ∧ s8 = .int .i64 v ∧ s9 = .bool ow ∧ s10 = .int .i64 0 ∧ PX NoE wx xb S R bs br (.slice A way.length c) (sP st su ss) (rP rt ru ro rr) way ∧ Below xb w wx ∧ Blk wx g4 51 C ∧ PrN (Xp xb (.slice A way.length c) NoE) wx (.agg Cm) (sP st' su' ss') ∧ Blk wx gz 31 Cm ∧ gz ≠ xb)
    case first =>
      refine wp_region_held_drew (S := fun wy => Below xb w wy ∧ PX NoE wy xb S R bs br (.slice A way.length c) (sP st su ss) (rP rt ru ro rr) way ∧ Blk wy g4 51 C) (by kernel_rfl) ⟨hB.drew, h.drew, kf.drew⟩ (fun hH => ?_)
      generalize w1.drew = xq1 at hH ⊢
      refine tkH 0 rfl (yieldsIf_pure _ (.pointer (some ⟨xb, 0, none⟩)) rfl (.inl rfl) rfl) hH ?_
      try simp only [zz1, zz2, zz3, Act.put, zz4, zz5, zz6]
      refine tkH 1 rfl (yieldsIf_cell (.pointer (some ⟨xb, 0, none⟩)) rfl (fun w h => rfl)) hH ?_
      try simp only [zz1, zz2, zz3, Act.put, zz4, zz5, zz6]
      refine tkH 2 rfl (yieldsIf_cell (.pointer (some ⟨xb, 0, none⟩)) rfl (fun w h => by go_simp)) hH ?_
      try simp only [zz1, zz2, zz3, Act.put, zz4, zz5, zz6]
      refine tkH 3 rfl (yS rfl _ rfl xb 0 rfl S (fun w h => h.2.1.rngS) HSZ.out) hH ?_
      try simp only [zz1, zz2, zz3, Act.put, zz4, zz5, zz6]
      refine tkH 4 rfl (yieldsIf_pure _ (.pointer (some ⟨xb, 0, none⟩)) rfl (.inl rfl) rfl) hH ?_
      try simp only [zz1, zz2, zz3, Act.put, zz4, zz5, zz6]
      refine tkH 5 rfl (yieldsIf_cell (.pointer (some ⟨xb, 0, none⟩)) rfl (fun w h => rfl)) hH ?_
      try simp only [zz1, zz2, zz3, Act.put, zz4, zz5, zz6]
      refine tkH 6 rfl (yieldsIf_cell (.pointer (some ⟨xb, 26, none⟩)) rfl (fun w h => by go_simp)) hH ?_
      try simp only [zz1, zz2, zz3, Act.put, zz4, zz5, zz6]
      refine tkH 7 rfl (yieldsIf_cell (.int .u64 bs) rfl (fun wy h => by have j0 := h.2.1.c26; go_simp)) hH ?_
      try simp only [zz1, zz2, zz3, Act.put, zz4, zz5, zz6]
      refine tkH 8 rfl (yieldsIf_row (g4) 51 C 51 _ _ rfl rfl rfl (fun w h => h.2.2) Try.underlying51 rfl (by rw [HCS.out]; kernel_rfl)) hH ?_
      try simp only [zz1, zz2, zz3, Act.put, zz4, zz5, zz6]
      refine rdH [9, 15] ?_
      refine AllReadyH.cons rfl (fun KK hK => ?_) ?_
      · go_simp
        refine (MEET.out _ hH.2.1.s.at).mono ?_
        rintro e xq23 ⟨Cm, rfl, hr23, hb23⟩
        have pz23 := PrN.ofB hr23 (hH.2.1.newX (noE_lt _))
        have HQS := Lib.hid pz23.size
        have HQ1 := Lib.hid pz23.one
        clear hr23
        refine hK.out _ _ ⟨hH.1.trans (hb23.mono (Nat.le_of_lt hH.2.1.lt)), hH.2.1.below hb23, hH.2.2.below hb23⟩ (fun hH23 => ?_)
        clear hK KK
        try simp only [zz1, zz2, zz3, Act.put, zz4, zz5, zz6]
        refine tkH 10 rfl (yieldsIf_pure _ (.tuple #[.agg Cm, .int .i64 v, .bool ow, .int .i64 0]) rfl (.inl rfl) rfl) hH23 ?_
        try simp only [zz1, zz2, zz3, Act.put, zz4, zz5, zz6]
        refine tkH 11 rfl (yieldsIf_cell (.agg Cm) rfl (fun w h => by go_simp)) hH23 ?_
        try simp only [zz1, zz2, zz3, Act.put, zz4, zz5, zz6]
        refine tkH 12 rfl (yieldsIf_cell (.int .i64 v) rfl (fun w h => by go_simp)) hH23 ?_
        try simp only [zz1, zz2, zz3, Act.put, zz4, zz5, zz6]
        refine tkH 13 rfl (yieldsIf_cell (.bool ow) rfl (fun w h => by go_simp)) hH23 ?_
        try simp only [zz1, zz2, zz3, Act.put, zz4, zz5, zz6]
        refine tkH 14 rfl (yieldsIf_cell (.int .i64 0) rfl (fun w h => by go_simp)) hH23 ?_
        try simp only [zz1, zz2, zz3, Act.put, zz4, zz5, zz6]
        refine rdH [15] ?_
        refine c1H rfl fun KK hK => ?_
        rw [if_pos (by rfl)]
        refine wp_alloc_z 31 (by rfl) _ rfl #[.int .i64 0, .int .u64 0, .bool false, .int .u64 0, .int .u64 0, .int .u64 0, .int .u64 0, .slice none 0 0, .int .u64 0, .int .u64 0, .int .u64 0, .slice none 0 0, .slice none 0 0] (fun w => by kernel_rfl) ?_
        have kg24 := Blk.new xq23 31 #[.int .i64 0, .int .u64 0, .bool false, .int .u64 0, .int .u64 0, .int .u64 0, .int .u64 0, .slice none 0 0, .int .u64 0, .int .u64 0, .int .u64 0, .slice none 0 0, .slice none 0 0]
        have pe24 := PX.allocE hH23.2.1 (.cells #[.int .i64 0, .int .u64 0, .bool false, .int .u64 0, .int .u64 0, .int .u64 0, .int .u64 0, .slice none 0 0, .int .u64 0, .int .u64 0, .int .u64 0, .slice none 0 0, .slice none 0 0] 31)
        have pz24 := PrN.allocE pz23 (.cells #[.int .i64 0, .int .u64 0, .bool false, .int .u64 0, .int .u64 0, .int .u64 0, .int .u64 0, .slice none 0 0, .int .u64 0, .int .u64 0, .int .u64 0, .slice none 0 0, .slice none 0 0] 31)
        have hxg24 : xb ≤ xq23.heap.size := Nat.le_of_lt hH23.2.1.lt
        have ne24_0 : ¬ g4 = xq23.heap.size := Nat.ne_of_lt hH23.2.2.lt
        have hc24 : (fun wy => Below xb w wy ∧ PX NoE wy xb S R bs br (.slice A way.length c) (sP st su ss) (rP rt ru ro rr) way ∧ Blk wy g4 51 C) (xq23.alloc (.cells #[.int .i64 0, .int .u64 0, .bool false, .int .u64 0, .int .u64 0, .int .u64 0, .int .u64 0, .slice none 0 0, .int .u64 0, .int .u64 0, .int .u64 0, .slice none 0 0, .slice none 0 0] 31)) := ⟨hH23.1.alloc (Nat.le_of_lt hH23.2.1.lt) _, hH23.2.1.alloc _, hH23.2.2.alloc _⟩
        generalize xq23.alloc (.cells #[.int .i64 0, .int .u64 0, .bool false, .int .u64 0, .int .u64 0, .int .u64 0, .int .u64 0, .slice none 0 0, .int .u64 0, .int .u64 0, .int .u64 0, .slice none 0 0, .slice none 0 0] 31) = xq24 at hc24 kg24 pe24 pz24 ⊢
        generalize xq23.heap.size = gq24 at kg24 pe24 pz24 hxg24 ne24_0 ⊢
        refine hK.out _ _ hc24 (fun hH24 => ?_)
        clear hc24
        clear hK KK
        try simp only [zz1, zz2, zz3, Act.put, zz4, zz5, zz6]
        refine rdH [16] ?_
        refine c1H rfl fun KK hK => ?_
        rw [if_pos (by rfl)]
        refine wp_store_mid 31 _ _ rfl gq24 0 Cm rfl rfl (Blk.there kg24 0 _ (by rw [HQS.out]; exact Nat.le_refl _)) (by rw [HQS.out]; kernel_rfl) HQ1.out ?_
        have kg25 : Blk (xq24.setCells gq24 0 (Array.toList Cm)) gq24 31 Cm := kg24.setAll (by rw [HQS.out]; rfl)
        have pe25 := pe24.far rfl (Array.toList Cm) 0
        have pz25 := pz24.setCells (.inr (.inr rfl)) (Array.toList Cm) 0
        have hc25 : (fun wy => Below xb w wy ∧ PX NoE wy xb S R bs br (.slice A way.length c) (sP st su ss) (rP rt ru ro rr) way ∧ Blk wy g4 51 C) (xq24.setCells gq24 0 (Array.toList Cm)) := ⟨below_setCells hxg24 _ _ hH24.1, pe25.noE, hH24.2.2.farAll ne24_0 _ _⟩
        generalize xq24.setCells gq24 0 (Array.toList Cm) = xq25 at hc25 kg25 pe25 pz25 ⊢
        refine hK.out _ _ hc25 (fun hH25 => ?_)
        clear hc25
        clear hK KK
        try simp only [zz1, zz2, zz3, Act.put, zz4, zz5, zz6]
        refine tkH 17 rfl (yieldsIf_pure _ (.int .i64 v) rfl (.inr rfl) rfl) hH25 ?_
        try simp only [zz1, zz2, zz3, Act.put, zz4, zz5, zz6]
        refine tkH 18 rfl (yieldsIf_pure _ (.bool ow) rfl (.inr rfl) rfl) hH25 ?_
        try simp only [zz1, zz2, zz3, Act.put, zz4, zz5, zz6]
        refine tkH 19 rfl (yieldsIf_pure _ (.int .i64 0) rfl (.inr rfl) rfl) hH25 ?_
        try simp only [zz1, zz2, zz3, Act.put, zz4, zz5, zz6]
        refine wpAnyH_done (by kernel_rfl) ?_ _
        go_wp2_with fail
        go_meet
        exact ⟨_, Cm, rfl, rfl, rfl, rfl, hH25.2.1, hH25.1, hH25.2.2, pz25.noE, kg25, (pe25.ne _ rfl).1⟩
      refine AllReadyH.cons rfl (fun KK hK => ?_) ?_
      · rw [if_pos (by rfl)]
        refine wp_alloc_z 31 (by rfl) _ rfl #[.int .i64 0, .int .u64 0, .bool false, .int .u64 0, .int .u64 0, .int .u64 0, .int .u64 0, .slice none 0 0, .int .u64 0, .int .u64 0, .int .u64 0, .slice none 0 0, .slice none 0 0] (fun w => by kernel_rfl) ?_
        have kg26 := Blk.new xq1 31 #[.int .i64 0, .int .u64 0, .bool false, .int .u64 0, .int .u64 0, .int .u64 0, .int .u64 0, .slice none 0 0, .int .u64 0, .int .u64 0, .int .u64 0, .slice none 0 0, .slice none 0 0]
        have pe26 := PX.allocE hH.2.1 (.cells #[.int .i64 0, .int .u64 0, .bool false, .int .u64 0, .int .u64 0, .int .u64 0, .int .u64 0, .slice none 0 0, .int .u64 0, .int .u64 0, .int .u64 0, .slice none 0 0, .slice none 0 0] 31)
        have hxg26 : xb ≤ xq1.heap.size := Nat.le_of_lt hH.2.1.lt
        have ne26_0 : ¬ g4 = xq1.heap.size := Nat.ne_of_lt hH.2.2.lt
        have hc26 : (fun wy => Below xb w wy ∧ PX NoE wy xb S R bs br (.slice A way.length c) (sP st su ss) (rP rt ru ro rr) way ∧ Blk wy g4 51 C) (xq1.alloc (.cells #[.int .i64 0, .int .u64 0, .bool false, .int .u64 0, .int .u64 0, .int .u64 0, .int .u64 0, .slice none 0 0, .int .u64 0, .int .u64 0, .int .u64 0, .slice none 0 0, .slice none 0 0] 31)) := ⟨hH.1.alloc (Nat.le_of_lt hH.2.1.lt) _, hH.2.1.alloc _, hH.2.2.alloc _⟩
        generalize xq1.alloc (.cells #[.int .i64 0, .int .u64 0, .bool false, .int .u64 0, .int .u64 0, .int .u64 0, .int .u64 0, .slice none 0 0, .int .u64 0, .int .u64 0, .int .u64 0, .slice none 0 0, .slice none 0 0] 31) = xq26 at hc26 kg26 pe26 ⊢
        generalize xq1.heap.size = gq26 at kg26 pe26 hxg26 ne26_0 ⊢
        refine hK.out _ _ hc26 (fun hH26 => ?_)
        clear hc26
        clear hK KK
        try simp only [zz1, zz2, zz3, Act.put, zz4, zz5, zz6]
        refine rdH [9] ?_
        refine c1H rfl fun KK hK => ?_
        go_simp
        refine (MEET.out _ hH26.2.1.s.at).mono ?_
        rintro e xq27 ⟨Cm, rfl, hr27, hb27⟩
        have kg27 := kg26.below hb27
        have pe27 := pe26.below hb27
        have pz27 := PrN.ofB hr27 (pe26.newX (fun b c => c ▸ kg26.lt))
        have HQS := Lib.hid pz27.size
        have HQ1 := Lib.hid pz27.one
        clear hr27
        refine hK.out _ _ ⟨hH26.1.trans (hb27.mono (Nat.le_of_lt hH26.2.1.lt)), hH26.2.1.below hb27, hH26.2.2.below hb27⟩ (fun hH27 => ?_)
        clear hK KK
        try simp only [zz1, zz2, zz3, Act.put, zz4, zz5, zz6]
        refine tkH 10 rfl (yieldsIf_pure _ (.tuple #[.agg Cm, .int .i64 v, .bool ow, .int .i64 0]) rfl (.inl rfl) rfl) hH27 ?_
        try simp only [zz1, zz2, zz3, Act.put, zz4, zz5, zz6]
        refine tkH 11 rfl (yieldsIf_cell (.agg Cm) rfl (fun w h => by go_simp)) hH27 ?_
        try simp only [zz1, zz2, zz3, Act.put, zz4, zz5, zz6]
        refine tkH 12 rfl (yieldsIf_cell (.int .i64 v) rfl (fun w h => by go_simp)) hH27 ?_
        try simp only [zz1, zz2, zz3, Act.put, zz4, zz5, zz6]
        refine tkH 13 rfl (yieldsIf_cell (.bool ow) rfl (fun w h => by go_simp)) hH27 ?_
        try simp only [zz1, zz2, zz3, Act.put, zz4, zz5, zz6]
        refine tkH 14 rfl (yieldsIf_cell (.int .i64 0) rfl (fun w h => by go_simp)) hH27 ?_
        try simp only [zz1, zz2, zz3, Act.put, zz4, zz5, zz6]
        refine rdH [16] ?_
        refine c1H rfl fun KK hK => ?_
        rw [if_pos (by rfl)]
        refine wp_store_mid 31 _ _ rfl gq26 0 Cm rfl rfl (Blk.there kg27 0 _ (by rw [HQS.out]; exact Nat.le_refl _)) (by rw [HQS.out]; kernel_rfl) HQ1.out ?_
        have kg28 : Blk (xq27.setCells gq26 0 (Array.toList Cm)) gq26 31 Cm := kg27.setAll (by rw [HQS.out]; rfl)
        have pe28 := pe27.far rfl (Array.toList Cm) 0
        have pz28 := pz27.setCells (.inr (.inr rfl)) (Array.toList Cm) 0
        have hc28 : (fun wy => Below xb w wy ∧ PX NoE wy xb S R bs br (.slice A way.length c) (sP st su ss) (rP rt ru ro rr) way ∧ Blk wy g4 51 C) (xq27.setCells gq26 0 (Array.toList Cm)) := ⟨below_setCells hxg26 _ _ hH27.1, pe28.noE, hH27.2.2.farAll ne26_0 _ _⟩
        generalize xq27.setCells gq26 0 (Array.toList Cm) = xq28 at hc28 kg28 pe28 pz28 ⊢
        refine hK.out _ _ hc28 (fun hH28 => ?_)
        clear hc28
        clear hK KK
        try simp only [zz1, zz2, zz3, Act.put, zz4, zz5, zz6]
        refine tkH 17 rfl (yieldsIf_pure _ (.int .i64 v) rfl (.inr rfl) rfl) hH28 ?_
        try simp only [zz1, zz2, zz3, Act.put, zz4, zz5, zz6]
        refine tkH 18 rfl (yieldsIf_pure _ (.bool ow) rfl (.inr rfl) rfl) hH28 ?_
        try simp only [zz1, zz2, zz3, Act.put, zz4, zz5, zz6]
        refine tkH 19 rfl (yieldsIf_pure _ (.int .i64 0) rfl (.inr rfl) rfl) hH28 ?_
        try simp only [zz1, zz2, zz3, Act.put, zz4, zz5, zz6]
        refine wpAnyH_done (by kernel_rfl) ?_ _
        go_wp2_with fail
        go_meet
        exact ⟨_, Cm, rfl, rfl, rfl, rfl, hH28.2.1, hH28.1, hH28.2.2, pz28.noE, kg28, (pe28.ne _ rfl).1⟩
      exact AllReadyH.nil
    case rest =>
    clear h kf hB MEET
    obtain ⟨gz, Cm, rfl, rfl, rfl, rfl, hz, hBz, kfz, pzz, kz, nez⟩ := hcut
    generalize wc = wz at hz hBz kfz pzz kz ⊢
    have HQS := Lib.hid pzz.size
    have HQ1 := Lib.hid pzz.one
    go_upto_region 4 with (go_big_may; first | (refine wpList_ldrow (by rfl) 31 _ (by rfl) gz (by rfl) 31 Cm (0, 0) _ kz Try.underlying31 (by rfl) (by rw [HQS.out]; kernel_rfl) ?_) | (refine wpList_store_gen (by rfl) 31 _ _ (by rfl) xb 0 Cm (by rfl) (by rfl) (by rw [HQS.out]; exact hz.there 0 13 (by decide)) (by rw [HQS.out]; kernel_rfl) HQ1.out ?_; intro W1 hW1))
    have h1 := hz.setS pzz
    have hB1 : Below xb w W1 := by rw [hW1.out]; exact below_setCells (Nat.le_refl _) _ _ hBz
    have kf1 : Blk W1 g4 51 C := by rw [hW1.out]; exact kfz.farAll NX4.out _ _
    have kz1 : Blk W1 gz 31 Cm := by rw [hW1.out]; exact kz.farAll nez _ _
    have pz1 := pzz.setCells (g := xb) (.inl rfl) Cm.toList 0
    rw [← hW1.out] at h1 pz1
    clear hz hBz kfz pzz kz hW1
    have q0 := (kf1.cell 0).trans C0
    have q5 := (kf1.cell 5).trans C5
    have HTH : Hid (0 ≤ st') := Lib.hid hI'.ts.1
    by_cases hv : v = 3
    · subst hv
      by_cases hk : f.kind = 2
      · obtain ⟨hyo, hm, hst⟩ := hv3 rfl
        have HG := Lib.hid (hI'.grantS hWY hf hto hk hm hyo hst)
        have HWS := Lib.hid hI'.ws
        rw [hk] at q0
        obtain ⟨Am, cm, Bm, dm, Em, em, rfl⟩ := frmS pz1
        obtain ⟨y0, y1, y2, y3, y4, y5, y6, y7, y8, y9, y10, y11, y12⟩ := kz1.c13
        go_upto_region 5 with fail
        clear y0 y1 y2 y3 y8 y9 y10 y11 y12
        go_wp2_with fail
        clear y4 y5 y6 y7 q0 q5
        refine (lGrant_any ss' HWS.out f.a _ _ pz1.rows.1).mono ?_
        rintro e W2 ⟨v2, rfl, hown, hb⟩
        rw [HG.out.1]
        have hI2 := HG.out.2
        generalize (grant ss' f.a).1 = s2 at hown hI2 ⊢
        obtain ⟨A2, c2, rfl, _⟩ := SlAt.own hown
        have pz2 := pz1.snd (s := s2) hb (.ofB (RowB.own hown (Nat.le_refl _)) (h1.newX (noE_lt _)))
        have h2 := h1.below hb
        have hB2 := hB1.trans (hb.mono (Nat.le_of_lt h1.lt))
        clear hown hb h1 hB1 pz1 kz1 kf1 HG
        go_upto_region 6 with (go_big_may; first | (refine wpList_alloc_z (by rfl) 25 (by rfl) _ rfl #[.int .u64 0, .int .u64 0, .int .u64 0, .slice none 0 0] (fun w => by kernel_rfl) ?_) | (refine wpList_store_new (by rfl) 25 _ _ (by rfl) W2 #[.int .u64 0, .int .u64 0, .int .u64 0, .slice none 0 0] #[.int .u64 s2.g, .int .u64 s2.n, .int .u64 s2.r, .slice A2 s2.sl.length c2] rfl (by rfl) (by rfl) (by kernel_rfl) rfl (by kernel_rfl) ?_))
        have k11 := Blk.new W2 25 #[.int .u64 s2.g, .int .u64 s2.n, .int .u64 s2.r, .slice A2 s2.sl.length c2]
        have hB3 := hB2.alloc (Nat.le_of_lt h2.lt) (.cells #[.int .u64 s2.g, .int .u64 s2.n, .int .u64 s2.r, .slice A2 s2.sl.length c2] 25)
        have h3 := h2.alloc (.cells #[.int .u64 s2.g, .int .u64 s2.n, .int .u64 s2.r, .slice A2 s2.sl.length c2] 25)
        have pz3 := pz2.below ((Below.refl _ _).alloc (Nat.le_refl _) (.cells #[.int .u64 s2.g, .int .u64 s2.n, .int .u64 s2.r, .slice A2 s2.sl.length c2] 25))
        clear hB2 h2 pz2
        generalize W2.alloc (.cells #[.int .u64 s2.g, .int .u64 s2.n, .int .u64 s2.r, .slice A2 s2.sl.length c2] 25) = W3 at k11 hB3 h3 pz3 ⊢
        generalize W2.heap.size = g11 at k11 ⊢
        go_upto_region 8 with (go_big_may; first | (refine wpList_ldrow (by rfl) 25 _ (by rfl) g11 (by rfl) 25 #[.int .u64 s2.g, .int .u64 s2.n, .int .u64 s2.r, .slice A2 s2.sl.length c2] (0, 0) _ k11 Try.underlying25 (by rfl) (by kernel_rfl) ?_) | (refine wpList_store_gen (by rfl) 25 _ _ (by rfl) xb 4 #[.int .u64 s2.g, .int .u64 s2.n, .int .u64 s2.r, .slice A2 s2.sl.length c2] (by rfl) (by rfl) (by exact h3.there 4 4 (by decide)) (by kernel_rfl) (by kernel_rfl) ?_; intro W4 hW4))
        have h4 : PX NoE W4 xb #[.int .i64 2, .int .u64 st', .bool su', .int .u64 0, .int .u64 s2.g, .int .u64 s2.n, .int .u64 s2.r, .slice A2 s2.sl.length c2, .int .u64 0, .int .u64 0, .int .u64 0, .slice Bm 0 dm, .slice Em 0 em] R bs br (.slice A way.length c) (sP st' su' s2) (rP rt ru ro rr) way := by rw [hW4.out]; exact h3.partS (o := 4) (l := Array.toList #[.int .u64 s2.g, .int .u64 s2.n, .int .u64 s2.r, .slice A2 s2.sl.length c2]) (by show 4 + 4 ≤ 13; decide) rfl pz3
        have hB4 : Below xb w W4 := by rw [hW4.out]; exact below_setCells (Nat.le_refl _) _ _ hB3
        clear k11 hB3 h3 pz3 hW4
        obtain ⟨Wq, hWq⟩ : ∃ W, W4 = W := ⟨_, rfl⟩
        rw [hWq] at h4 hB4 ⊢
        clear hWq
        cases ow with
        | false =>
          go_wp2_with fail
          refine bodyPost_ret (v := .bool true) (by simp [results, Try.results50, go_sem]) rfl ?_
          exact ⟨rfl, hB4, bs, br, _, _, _, _, _, _, _, way, #[.int .i64 2, .int .u64 st', .bool su', .int .u64 0, .int .u64 s2.g, .int .u64 s2.n, .int .u64 s2.r, .slice A2 s2.sl.length c2, .int .u64 0, .int .u64 0, .int .u64 0, .slice Bm 0 dm, .slice Em 0 em], R, A, c, hI2, hWY, hwl, h4⟩
        | true =>
          obtain ⟨D, hD⟩ : ∃ D, (frB (sP st' su' s2) 1 bs 1 0 0).cells.toArray = D := ⟨_, rfl⟩
          have HDS : Hid (D.size = 19) := Lib.hid (by rw [← hD]; rfl)
          have HD1 : Hid (D.all (·.oneCell') = true) := Lib.hid (by rw [← hD]; exact fr_all _)
          have HEL := Lib.hid (fun V w h => hello_sa hI2 V w h)
          have PUT := Lib.hid (fun w h => put_act hI2 hWY hwl (frB (sP st' su' s2) 1 bs 1 0 0) 0 (fun _ => ⟨hI2.hello_s, HTH.out⟩) (.inl rfl) (xb := xb) (S := #[.int .i64 2, .int .u64 st', .bool su', .int .u64 0, .int .u64 s2.g, .int .u64 s2.n, .int .u64 s2.r, .slice A2 s2.sl.length c2, .int .u64 0, .int .u64 0, .int .u64 0, .slice Bm 0 dm, .slice Em 0 em]) (R := R) (A := A) (c := c) w h)
          rw [hD] at HEL PUT
          have HSZq := Lib.hid h4.s.size
          have hq := h4
          have hBq := hB4
          clear hD
          go_upto_region 9 with fail
          try clear h4 hB4
          skip
          refine wp_region_held_drew (S := fun wy => Below xb w wy ∧ PX NoE wy xb #[.int .i64 2, .int .u64 st', .bool su', .int .u64 0, .int .u64 s2.g, .int .u64 s2.n, .int .u64 s2.r, .slice A2 s2.sl.length c2, .int .u64 0, .int .u64 0, .int .u64 0, .slice Bm 0 dm, .slice Em 0 em] R bs br (.slice A way.length c) (sP st' su' s2) (rP rt ru ro rr) way) (by kernel_rfl) ⟨hBq.drew, hq.drew⟩ (fun hH => ?_)
          generalize Wq.drew = xq2 at hH ⊢
          refine tkH 0 rfl (yieldsIf_pure _ (.pointer (some ⟨xb, 0, none⟩)) rfl (.inl rfl) rfl) hH ?_
          try simp only [zz1, zz2, zz3, Act.put, zz4, zz5, zz6]
          refine tkH 1 rfl (yieldsIf_cell (.pointer (some ⟨xb, 0, none⟩)) rfl (fun w h => rfl)) hH ?_
          try simp only [zz1, zz2, zz3, Act.put, zz4, zz5, zz6]
          refine tkH 2 rfl (yieldsIf_cell (.pointer (some ⟨xb, 0, none⟩)) rfl (fun w h => by go_simp)) hH ?_
          try simp only [zz1, zz2, zz3, Act.put, zz4, zz5, zz6]
          refine tkH 3 rfl (yS rfl _ rfl xb 0 rfl #[.int .i64 2, .int .u64 st', .bool su', .int .u64 0, .int .u64 s2.g, .int .u64 s2.n, .int .u64 s2.r, .slice A2 s2.sl.length c2, .int .u64 0, .int .u64 0, .int .u64 0, .slice Bm 0 dm, .slice Em 0 em] (fun w h => h.2.rngS) HSZq.out) hH ?_
          try simp only [zz1, zz2, zz3, Act.put, zz4, zz5, zz6]
          refine tkH 4 rfl (yieldsIf_pure _ (.pointer (some ⟨xb, 0, none⟩)) rfl (.inl rfl) rfl) hH ?_
          try simp only [zz1, zz2, zz3, Act.put, zz4, zz5, zz6]
          refine tkH 5 rfl (yieldsIf_cell (.pointer (some ⟨xb, 0, none⟩)) rfl (fun w h => rfl)) hH ?_
          try simp only [zz1, zz2, zz3, Act.put, zz4, zz5, zz6]
          refine tkH 6 rfl (yieldsIf_cell (.pointer (some ⟨xb, 26, none⟩)) rfl (fun w h => by go_simp)) hH ?_
          try simp only [zz1, zz2, zz3, Act.put, zz4, zz5, zz6]
          refine tkH 7 rfl (yieldsIf_cell (.int .u64 bs) rfl (fun wy h => by have j0 := h.2.c26; go_simp)) hH ?_
          try simp only [zz1, zz2, zz3, Act.put, zz4, zz5, zz6]
          refine rdH [8, 12] ?_
          refine AllReadyH.cons rfl (fun KK hK => ?_) ?_
          · go_simp
            refine (HEL.out _ _ hH.2.s.at).mono ?_
            rintro e xq3 ⟨rfl, hb3⟩
            refine hK.out _ _ ⟨hH.1.trans (hb3.mono (Nat.le_of_lt hH.2.lt)), hH.2.below hb3⟩ (fun hH3 => ?_)
            clear hK KK
            try simp only [zz1, zz2, zz3, Act.put, zz4, zz5, zz6]
            refine tkH 9 rfl (yieldsIf_pure _ (.tuple #[.agg D, .int .i64 0]) rfl (.inl rfl) rfl) hH3 ?_
            try simp only [zz1, zz2, zz3, Act.put, zz4, zz5, zz6]
            refine tkH 10 rfl (yieldsIf_cell (.agg D) rfl (fun w h => by go_simp)) hH3 ?_
            try simp only [zz1, zz2, zz3, Act.put, zz4, zz5, zz6]
            refine tkH 11 rfl (yieldsIf_cell (.int .i64 0) rfl (fun w h => by go_simp)) hH3 ?_
            try simp only [zz1, zz2, zz3, Act.put, zz4, zz5, zz6]
            refine rdH [12] ?_
            refine c1H rfl fun KK hK => ?_
            rw [if_pos (by rfl)]
            refine wp_alloc_z 51 (by rfl) _ rfl zF19 zeroFr ?_
            have kg4 := Blk.new xq3 51 zF19
            have pe4 := PX.allocE hH3.2 (.cells zF19 51)
            have hxg4 : xb ≤ xq3.heap.size := Nat.le_of_lt hH3.2.lt
            have hc4 : (fun wy => Below xb w wy ∧ PX NoE wy xb #[.int .i64 2, .int .u64 st', .bool su', .int .u64 0, .int .u64 s2.g, .int .u64 s2.n, .int .u64 s2.r, .slice A2 s2.sl.length c2, .int .u64 0, .int .u64 0, .int .u64 0, .slice Bm 0 dm, .slice Em 0 em] R bs br (.slice A way.length c) (sP st' su' s2) (rP rt ru ro rr) way) (xq3.alloc (.cells zF19 51)) := ⟨hH3.1.alloc (Nat.le_of_lt hH3.2.lt) _, hH3.2.alloc _⟩
            generalize xq3.alloc (.cells zF19 51) = xq4 at hc4 kg4 pe4 ⊢
            generalize xq3.heap.size = gq4 at kg4 pe4 hxg4 ⊢
            refine hK.out _ _ hc4 (fun hH4 => ?_)
            clear hc4
            clear hK KK
            try simp only [zz1, zz2, zz3, Act.put, zz4, zz5, zz6]
            refine rdH [13] ?_
            refine c1H rfl fun KK hK => ?_
            rw [if_pos (by rfl)]
            refine wp_store_mid 51 _ _ rfl gq4 0 D rfl rfl (Blk.there kg4 0 _ (by rw [HDS.out]; exact Nat.le_refl _)) (by rw [HDS.out]; kernel_rfl) HD1.out ?_
            have kg5 : Blk (xq4.setCells gq4 0 (Array.toList D)) gq4 51 D := kg4.setAll (by rw [HDS.out]; rfl)
            have pe5 := pe4.far rfl (Array.toList D) 0
            have hc5 : (fun wy => Below xb w wy ∧ PX NoE wy xb #[.int .i64 2, .int .u64 st', .bool su', .int .u64 0, .int .u64 s2.g, .int .u64 s2.n, .int .u64 s2.r, .slice A2 s2.sl.length c2, .int .u64 0, .int .u64 0, .int .u64 0, .slice Bm 0 dm, .slice Em 0 em] R bs br (.slice A way.length c) (sP st' su' s2) (rP rt ru ro rr) way) (xq4.setCells gq4 0 (Array.toList D)) := ⟨below_setCells hxg4 _ _ hH4.1, pe5.noE⟩
            generalize xq4.setCells gq4 0 (Array.toList D) = xq5 at hc5 kg5 pe5 ⊢
            refine hK.out _ _ hc5 (fun hH5 => ?_)
            clear hc5
            clear hK KK
            try simp only [zz1, zz2, zz3, Act.put, zz4, zz5, zz6]
            refine tkH 14 rfl (yieldsIf_pure _ (.int .i64 0) rfl (.inr rfl) rfl) hH5 ?_
            try simp only [zz1, zz2, zz3, Act.put, zz4, zz5, zz6]
            refine wpAnyH_done (by kernel_rfl) ?_ _
            have hz := hH5.2
            have hBz := hH5.1
            have kz := kg5
            clear hH5
            go_wp2_with (refine wpList_ldrow (by rfl) 51 _ (by rfl) gq4 (by rfl) 51 D (0, 0) _ kz Try.underlying51 (by rfl) (by rw [HDS.out]; kernel_rfl) ?_)
            refine (PUT.out _ hz).mono ?_
            rintro e wz ⟨rfl, hbz, hGz⟩
            go_wp2_with fail
            refine bodyPost_ret (v := .bool true) (by simp [results, Try.results50, go_sem]) rfl ?_
            exact ⟨rfl, hBz.trans hbz, hGz⟩
          refine AllReadyH.cons rfl (fun KK hK => ?_) ?_
          · rw [if_pos (by rfl)]
            refine wp_alloc_z 51 (by rfl) _ rfl zF19 zeroFr ?_
            have kg6 := Blk.new xq2 51 zF19
            have pe6 := PX.allocE hH.2 (.cells zF19 51)
            have hxg6 : xb ≤ xq2.heap.size := Nat.le_of_lt hH.2.lt
            have hc6 : (fun wy => Below xb w wy ∧ PX NoE wy xb #[.int .i64 2, .int .u64 st', .bool su', .int .u64 0, .int .u64 s2.g, .int .u64 s2.n, .int .u64 s2.r, .slice A2 s2.sl.length c2, .int .u64 0, .int .u64 0, .int .u64 0, .slice Bm 0 dm, .slice Em 0 em] R bs br (.slice A way.length c) (sP st' su' s2) (rP rt ru ro rr) way) (xq2.alloc (.cells zF19 51)) := ⟨hH.1.alloc (Nat.le_of_lt hH.2.lt) _, hH.2.alloc _⟩
            generalize xq2.alloc (.cells zF19 51) = xq6 at hc6 kg6 pe6 ⊢
            generalize xq2.heap.size = gq6 at kg6 pe6 hxg6 ⊢
            refine hK.out _ _ hc6 (fun hH6 => ?_)
            clear hc6
            clear hK KK
            try simp only [zz1, zz2, zz3, Act.put, zz4, zz5, zz6]
            refine rdH [8] ?_
            refine c1H rfl fun KK hK => ?_
            go_simp
            refine (HEL.out _ _ hH6.2.s.at).mono ?_
            rintro e xq7 ⟨rfl, hb7⟩
            have kg7 := kg6.below hb7
            have pe7 := pe6.below hb7
            refine hK.out _ _ ⟨hH6.1.trans (hb7.mono (Nat.le_of_lt hH6.2.lt)), hH6.2.below hb7⟩ (fun hH7 => ?_)
            clear hK KK
            try simp only [zz1, zz2, zz3, Act.put, zz4, zz5, zz6]
            refine tkH 9 rfl (yieldsIf_pure _ (.tuple #[.agg D, .int .i64 0]) rfl (.inl rfl) rfl) hH7 ?_
            try simp only [zz1, zz2, zz3, Act.put, zz4, zz5, zz6]
            refine tkH 10 rfl (yieldsIf_cell (.agg D) rfl (fun w h => by go_simp)) hH7 ?_
            try simp only [zz1, zz2, zz3, Act.put, zz4, zz5, zz6]
            refine tkH 11 rfl (yieldsIf_cell (.int .i64 0) rfl (fun w h => by go_simp)) hH7 ?_
            try simp only [zz1, zz2, zz3, Act.put, zz4, zz5, zz6]
            refine rdH [13] ?_
            refine c1H rfl fun KK hK => ?_
            rw [if_pos (by rfl)]
            refine wp_store_mid 51 _ _ rfl gq6 0 D rfl rfl (Blk.there kg7 0 _ (by rw [HDS.out]; exact Nat.le_refl _)) (by rw [HDS.out]; kernel_rfl) HD1.out ?_
            have kg8 : Blk (xq7.setCells gq6 0 (Array.toList D)) gq6 51 D := kg7.setAll (by rw [HDS.out]; rfl)
            have pe8 := pe7.far rfl (Array.toList D) 0
            have hc8 : (fun wy => Below xb w wy ∧ PX NoE wy xb #[.int .i64 2, .int .u64 st', .bool su', .int .u64 0, .int .u64 s2.g, .int .u64 s2.n, .int .u64 s2.r, .slice A2 s2.sl.length c2, .int .u64 0, .int .u64 0, .int .u64 0, .slice Bm 0 dm, .slice Em 0 em] R bs br (.slice A way.length c) (sP st' su' s2) (rP rt ru ro rr) way) (xq7.setCells gq6 0 (Array.toList D)) := ⟨below_setCells hxg6 _ _ hH7.1, pe8.noE⟩
            generalize xq7.setCells gq6 0 (Array.toList D) = xq8 at hc8 kg8 pe8 ⊢
            refine hK.out _ _ hc8 (fun hH8 => ?_)
            clear hc8
            clear hK KK
            try simp only [zz1, zz2, zz3, Act.put, zz4, zz5, zz6]
            refine tkH 14 rfl (yieldsIf_pure _ (.int .i64 0) rfl (.inr rfl) rfl) hH8 ?_
            try simp only [zz1, zz2, zz3, Act.put, zz4, zz5, zz6]
            refine wpAnyH_done (by kernel_rfl) ?_ _
            have hz := hH8.2
            have hBz := hH8.1
            have kz := kg8
            clear hH8
            go_wp2_with (refine wpList_ldrow (by rfl) 51 _ (by rfl) gq6 (by rfl) 51 D (0, 0) _ kz Try.underlying51 (by rfl) (by rw [HDS.out]; kernel_rfl) ?_)
            refine (PUT.out _ hz).mono ?_
            rintro e wz ⟨rfl, hbz, hGz⟩
            go_wp2_with fail
            refine bodyPost_ret (v := .bool true) (by simp [results, Try.results50, go_sem]) rfl ?_
            exact ⟨rfl, hBz.trans hbz, hGz⟩
          exact AllReadyH.nil
      · have e2 : (f.kind == 2) = false := by simpa using hk
        go_upto_region 8 with fail
        clear q0 q5 kf1 kz1 pz1
        generalize W1 = Wq at h1 hB1 ⊢
        cases ow with
        | false =>
          go_wp2_with fail
          refine bodyPost_ret (v := .bool true) (by simp [results, Try.results50, go_sem]) rfl ?_
          exact ⟨rfl, hB1, bs, br, _, _, _, _, _, _, _, way, Cm, R, A, c, hI', hWY, hwl, h1⟩
        | true =>
          obtain ⟨D, hD⟩ : ∃ D, (frB (sP st' su' ss') 1 bs 1 0 0).cells.toArray = D := ⟨_, rfl⟩
          have HDS : Hid (D.size = 19) := Lib.hid (by rw [← hD]; rfl)
          have HD1 : Hid (D.all (·.oneCell') = true) := Lib.hid (by rw [← hD]; exact fr_all _)
          have HEL := Lib.hid (fun V w h => hello_sa hI' V w h)
          have PUT := Lib.hid (fun w h => put_act hI' hWY hwl (frB (sP st' su' ss') 1 bs 1 0 0) 0 (fun _ => ⟨hI'.hello_s, HTH.out⟩) (.inl rfl) (xb := xb) (S := Cm) (R := R) (A := A) (c := c) w h)
          rw [hD] at HEL PUT
          have HSZq := Lib.hid h1.s.size
          have hq := h1
          have hBq := hB1
          clear hD
          go_upto_region 9 with fail
          try clear h1 hB1
          skip
          refine wp_region_held_drew (S := fun wy => Below xb w wy ∧ PX NoE wy xb Cm R bs br (.slice A way.length c) (sP st' su' ss') (rP rt ru ro rr) way) (by kernel_rfl) ⟨hBq.drew, hq.drew⟩ (fun hH => ?_)
          generalize Wq.drew = xq9 at hH ⊢
          refine tkH 0 rfl (yieldsIf_pure _ (.pointer (some ⟨xb, 0, none⟩)) rfl (.inl rfl) rfl) hH ?_
          try simp only [zz1, zz2, zz3, Act.put, zz4, zz5, zz6]
          refine tkH 1 rfl (yieldsIf_cell (.pointer (some ⟨xb, 0, none⟩)) rfl (fun w h => rfl)) hH ?_
          try simp only [zz1, zz2, zz3, Act.put, zz4, zz5, zz6]
          refine tkH 2 rfl (yieldsIf_cell (.pointer (some ⟨xb, 0, none⟩)) rfl (fun w h => by go_simp)) hH ?_
          try simp only [zz1, zz2, zz3, Act.put, zz4, zz5, zz6]
          refine tkH 3 rfl (yS rfl _ rfl xb 0 rfl Cm (fun w h => h.2.rngS) HSZq.out) hH ?_
          try simp only [zz1, zz2, zz3, Act.put, zz4, zz5, zz6]
          refine tkH 4 rfl (yieldsIf_pure _ (.pointer (some ⟨xb, 0, none⟩)) rfl (.inl rfl) rfl) hH ?_
          try simp only [zz1, zz2, zz3, Act.put, zz4, zz5, zz6]
          refine tkH 5 rfl (yieldsIf_cell (.pointer (some ⟨xb, 0, none⟩)) rfl (fun w h => rfl)) hH ?_
          try simp only [zz1, zz2, zz3, Act.put, zz4, zz5, zz6]
          refine tkH 6 rfl (yieldsIf_cell (.pointer (some ⟨xb, 26, none⟩)) rfl (fun w h => by go_simp)) hH ?_
          try simp only [zz1, zz2, zz3, Act.put, zz4, zz5, zz6]
          refine tkH 7 rfl (yieldsIf_cell (.int .u64 bs) rfl (fun wy h => by have j0 := h.2.c26; go_simp)) hH ?_
          try simp only [zz1, zz2, zz3, Act.put, zz4, zz5, zz6]
          refine rdH [8, 12] ?_
          refine AllReadyH.cons rfl (fun KK hK => ?_) ?_
          · go_simp
            refine (HEL.out _ _ hH.2.s.at).mono ?_
            rintro e xq10 ⟨rfl, hb10⟩
            refine hK.out _ _ ⟨hH.1.trans (hb10.mono (Nat.le_of_lt hH.2.lt)), hH.2.below hb10⟩ (fun hH10 => ?_)
            clear hK KK
            try simp only [zz1, zz2, zz3, Act.put, zz4, zz5, zz6]
            refine tkH 9 rfl (yieldsIf_pure _ (.tuple #[.agg D, .int .i64 0]) rfl (.inl rfl) rfl) hH10 ?_
            try simp only [zz1, zz2, zz3, Act.put, zz4, zz5, zz6]
            refine tkH 10 rfl (yieldsIf_cell (.agg D) rfl (fun w h => by go_simp)) hH10 ?_
            try simp only [zz1, zz2, zz3, Act.put, zz4, zz5, zz6]
            refine tkH 11 rfl (yieldsIf_cell (.int .i64 0) rfl (fun w h => by go_simp)) hH10 ?_
            try simp only [zz1, zz2, zz3, Act.put, zz4, zz5, zz6]
            refine rdH [12] ?_
            refine c1H rfl fun KK hK => ?_
            rw [if_pos (by rfl)]
            refine wp_alloc_z 51 (by rfl) _ rfl zF19 zeroFr ?_
            have kg11 := Blk.new xq10 51 zF19
            have pe11 := PX.allocE hH10.2 (.cells zF19 51)
            have hxg11 : xb ≤ xq10.heap.size := Nat.le_of_lt hH10.2.lt
            have hc11 : (fun wy => Below xb w wy ∧ PX NoE wy xb Cm R bs br (.slice A way.length c) (sP st' su' ss') (rP rt ru ro rr) way) (xq10.alloc (.cells zF19 51)) := ⟨hH10.1.alloc (Nat.le_of_lt hH10.2.lt) _, hH10.2.alloc _⟩
            generalize xq10.alloc (.cells zF19 51) = xq11 at hc11 kg11 pe11 ⊢
            generalize xq10.heap.size = gq11 at kg11 pe11 hxg11 ⊢
            refine hK.out _ _ hc11 (fun hH11 => ?_)
            clear hc11
            clear hK KK
            try simp only [zz1, zz2, zz3, Act.put, zz4, zz5, zz6]
            refine rdH [13] ?_
            refine c1H rfl fun KK hK => ?_
            rw [if_pos (by rfl)]
            refine wp_store_mid 51 _ _ rfl gq11 0 D rfl rfl (Blk.there kg11 0 _ (by rw [HDS.out]; exact Nat.le_refl _)) (by rw [HDS.out]; kernel_rfl) HD1.out ?_
            have kg12 : Blk (xq11.setCells gq11 0 (Array.toList D)) gq11 51 D := kg11.setAll (by rw [HDS.out]; rfl)
            have pe12 := pe11.far rfl (Array.toList D) 0
            have hc12 : (fun wy => Below xb w wy ∧ PX NoE wy xb Cm R bs br (.slice A way.length c) (sP st' su' ss') (rP rt ru ro rr) way) (xq11.setCells gq11 0 (Array.toList D)) := ⟨below_setCells hxg11 _ _ hH11.1, pe12.noE⟩
            generalize xq11.setCells gq11 0 (Array.toList D) = xq12 at hc12 kg12 pe12 ⊢
            refine hK.out _ _ hc12 (fun hH12 => ?_)
            clear hc12
            clear hK KK
            try simp only [zz1, zz2, zz3, Act.put, zz4, zz5, zz6]
            refine tkH 14 rfl (yieldsIf_pure _ (.int .i64 0) rfl (.inr rfl) rfl) hH12 ?_
            try simp only [zz1, zz2, zz3, Act.put, zz4, zz5, zz6]
            refine wpAnyH_done (by kernel_rfl) ?_ _
            have hz := hH12.2
            have hBz := hH12.1
            have kz := kg12
            clear hH12
            go_wp2_with (refine wpList_ldrow (by rfl) 51 _ (by rfl) gq11 (by rfl) 51 D (0, 0) _ kz Try.underlying51 (by rfl) (by rw [HDS.out]; kernel_rfl) ?_)
            refine (PUT.out _ hz).mono ?_
            rintro e wz ⟨rfl, hbz, hGz⟩
            go_wp2_with fail
            refine bodyPost_ret (v := .bool true) (by simp [results, Try.results50, go_sem]) rfl ?_
            exact ⟨rfl, hBz.trans hbz, hGz⟩
          refine AllReadyH.cons rfl (fun KK hK => ?_) ?_
          · rw [if_pos (by rfl)]
            refine wp_alloc_z 51 (by rfl) _ rfl zF19 zeroFr ?_
            have kg13 := Blk.new xq9 51 zF19
            have pe13 := PX.allocE hH.2 (.cells zF19 51)
            have hxg13 : xb ≤ xq9.heap.size := Nat.le_of_lt hH.2.lt
            have hc13 : (fun wy => Below xb w wy ∧ PX NoE wy xb Cm R bs br (.slice A way.length c) (sP st' su' ss') (rP rt ru ro rr) way) (xq9.alloc (.cells zF19 51)) := ⟨hH.1.alloc (Nat.le_of_lt hH.2.lt) _, hH.2.alloc _⟩
            generalize xq9.alloc (.cells zF19 51) = xq13 at hc13 kg13 pe13 ⊢
            generalize xq9.heap.size = gq13 at kg13 pe13 hxg13 ⊢
            refine hK.out _ _ hc13 (fun hH13 => ?_)
            clear hc13
            clear hK KK
            try simp only [zz1, zz2, zz3, Act.put, zz4, zz5, zz6]
            refine rdH [8] ?_
            refine c1H rfl fun KK hK => ?_
            go_simp
            refine (HEL.out _ _ hH13.2.s.at).mono ?_
            rintro e xq14 ⟨rfl, hb14⟩
            have kg14 := kg13.below hb14
            have pe14 := pe13.below hb14
            refine hK.out _ _ ⟨hH13.1.trans (hb14.mono (Nat.le_of_lt hH13.2.lt)), hH13.2.below hb14⟩ (fun hH14 => ?_)
            clear hK KK
            try simp only [zz1, zz2, zz3, Act.put, zz4, zz5, zz6]
            refine tkH 9 rfl (yieldsIf_pure _ (.tuple #[.agg D, .int .i64 0]) rfl (.inl rfl) rfl) hH14 ?_
            try simp only [zz1, zz2, zz3, Act.put, zz4, zz5, zz6]
            refine tkH 10 rfl (yieldsIf_cell (.agg D) rfl (fun w h => by go_simp)) hH14 ?_
            try simp only [zz1, zz2, zz3, Act.put, zz4, zz5, zz6]
            refine tkH 11 rfl (yieldsIf_cell (.int .i64 0) rfl (fun w h => by go_simp)) hH14 ?_
            try simp only [zz1, zz2, zz3, Act.put, zz4, zz5, zz6]
            refine rdH [13] ?_
            refine c1H rfl fun KK hK => ?_
            rw [if_pos (by rfl)]
            refine wp_store_mid 51 _ _ rfl gq13 0 D rfl rfl (Blk.there kg14 0 _ (by rw [HDS.out]; exact Nat.le_refl _)) (by rw [HDS.out]; kernel_rfl) HD1.out ?_
            have kg15 : Blk (xq14.setCells gq13 0 (Array.toList D)) gq13 51 D := kg14.setAll (by rw [HDS.out]; rfl)
            have pe15 := pe14.far rfl (Array.toList D) 0
            have hc15 : (fun wy => Below xb w wy ∧ PX NoE wy xb Cm R bs br (.slice A way.length c) (sP st' su' ss') (rP rt ru ro rr) way) (xq14.setCells gq13 0 (Array.toList D)) := ⟨below_setCells hxg13 _ _ hH14.1, pe15.noE⟩
            generalize xq14.setCells gq13 0 (Array.toList D) = xq15 at hc15 kg15 pe15 ⊢
            refine hK.out _ _ hc15 (fun hH15 => ?_)
            clear hc15
            clear hK KK
            try simp only [zz1, zz2, zz3, Act.put, zz4, zz5, zz6]
            refine tkH 14 rfl (yieldsIf_pure _ (.int .i64 0) rfl (.inr rfl) rfl) hH15 ?_
            try simp only [zz1, zz2, zz3, Act.put, zz4, zz5, zz6]
            refine wpAnyH_done (by kernel_rfl) ?_ _
            have hz := hH15.2
            have hBz := hH15.1
            have kz := kg15
            clear hH15
            go_wp2_with (refine wpList_ldrow (by rfl) 51 _ (by rfl) gq13 (by rfl) 51 D (0, 0) _ kz Try.underlying51 (by rfl) (by rw [HDS.out]; kernel_rfl) ?_)
            refine (PUT.out _ hz).mono ?_
            rintro e wz ⟨rfl, hbz, hGz⟩
            go_wp2_with fail
            refine bodyPost_ret (v := .bool true) (by simp [results, Try.results50, go_sem]) rfl ?_
            exact ⟨rfl, hBz.trans hbz, hGz⟩
          exact AllReadyH.nil
    · have e2 : (v == 3) = false := by simpa using hv
      go_upto_region 8 with fail
      clear q0 q5 kf1 kz1 pz1
      generalize W1 = Wq at h1 hB1 ⊢
      cases ow with
      | false =>
        go_wp2_with fail
        refine bodyPost_ret (v := .bool true) (by simp [results, Try.results50, go_sem]) rfl ?_
        exact ⟨rfl, hB1, bs, br, _, _, _, _, _, _, _, way, Cm, R, A, c, hI', hWY, hwl, h1⟩
      | true =>
        obtain ⟨D, hD⟩ : ∃ D, (frB (sP st' su' ss') 1 bs 1 0 0).cells.toArray = D := ⟨_, rfl⟩
        have HDS : Hid (D.size = 19) := Lib.hid (by rw [← hD]; rfl)
        have HD1 : Hid (D.all (·.oneCell') = true) := Lib.hid (by rw [← hD]; exact fr_all _)
        have HEL := Lib.hid (fun V w h => hello_sa hI' V w h)
        have PUT := Lib.hid (fun w h => put_act hI' hWY hwl (frB (sP st' su' ss') 1 bs 1 0 0) 0 (fun _ => ⟨hI'.hello_s, HTH.out⟩) (.inl rfl) (xb := xb) (S := Cm) (R := R) (A := A) (c := c) w h)
        rw [hD] at HEL PUT
        have HSZq := Lib.hid h1.s.size
        have hq := h1
        have hBq := hB1
        clear hD
        go_upto_region 9 with fail
        try clear h1 hB1
        skip
        refine wp_region_held_drew (S := fun wy => Below xb w wy ∧ PX NoE wy xb Cm R bs br (.slice A way.length c) (sP st' su' ss') (rP rt ru ro rr) way) (by kernel_rfl) ⟨hBq.drew, hq.drew⟩ (fun hH => ?_)
        generalize Wq.drew = xq16 at hH ⊢
        refine tkH 0 rfl (yieldsIf_pure _ (.pointer (some ⟨xb, 0, none⟩)) rfl (.inl rfl) rfl) hH ?_
        try simp only [zz1, zz2, zz3, Act.put, zz4, zz5, zz6]
        refine tkH 1 rfl (yieldsIf_cell (.pointer (some ⟨xb, 0, none⟩)) rfl (fun w h => rfl)) hH ?_
        try simp only [zz1, zz2, zz3, Act.put, zz4, zz5, zz6]
        refine tkH 2 rfl (yieldsIf_cell (.pointer (some ⟨xb, 0, none⟩)) rfl (fun w h => by go_simp)) hH ?_
        try simp only [zz1, zz2, zz3, Act.put, zz4, zz5, zz6]
        refine tkH 3 rfl (yS rfl _ rfl xb 0 rfl Cm (fun w h => h.2.rngS) HSZq.out) hH ?_
        try simp only [zz1, zz2, zz3, Act.put, zz4, zz5, zz6]
        refine tkH 4 rfl (yieldsIf_pure _ (.pointer (some ⟨xb, 0, none⟩)) rfl (.inl rfl) rfl) hH ?_
        try simp only [zz1, zz2, zz3, Act.put, zz4, zz5, zz6]
        refine tkH 5 rfl (yieldsIf_cell (.pointer (some ⟨xb, 0, none⟩)) rfl (fun w h => rfl)) hH ?_
        try simp only [zz1, zz2, zz3, Act.put, zz4, zz5, zz6]
        refine tkH 6 rfl (yieldsIf_cell (.pointer (some ⟨xb, 26, none⟩)) rfl (fun w h => by go_simp)) hH ?_
        try simp only [zz1, zz2, zz3, Act.put, zz4, zz5, zz6]
        refine tkH 7 rfl (yieldsIf_cell (.int .u64 bs) rfl (fun wy h => by have j0 := h.2.c26; go_simp)) hH ?_
        try simp only [zz1, zz2, zz3, Act.put, zz4, zz5, zz6]
        refine rdH [8, 12] ?_
        refine AllReadyH.cons rfl (fun KK hK => ?_) ?_
        · go_simp
          refine (HEL.out _ _ hH.2.s.at).mono ?_
          rintro e xq17 ⟨rfl, hb17⟩
          refine hK.out _ _ ⟨hH.1.trans (hb17.mono (Nat.le_of_lt hH.2.lt)), hH.2.below hb17⟩ (fun hH17 => ?_)
          clear hK KK
          try simp only [zz1, zz2, zz3, Act.put, zz4, zz5, zz6]
          refine tkH 9 rfl (yieldsIf_pure _ (.tuple #[.agg D, .int .i64 0]) rfl (.inl rfl) rfl) hH17 ?_
          try simp only [zz1, zz2, zz3, Act.put, zz4, zz5, zz6]
          refine tkH 10 rfl (yieldsIf_cell (.agg D) rfl (fun w h => by go_simp)) hH17 ?_
          try simp only [zz1, zz2, zz3, Act.put, zz4, zz5, zz6]
          refine tkH 11 rfl (yieldsIf_cell (.int .i64 0) rfl (fun w h => by go_simp)) hH17 ?_
          try simp only [zz1, zz2, zz3, Act.put, zz4, zz5, zz6]
          refine rdH [12] ?_
          refine c1H rfl fun KK hK => ?_
          rw [if_pos (by rfl)]
          refine wp_alloc_z 51 (by rfl) _ rfl zF19 zeroFr ?_
          have kg18 := Blk.new xq17 51 zF19
          have pe18 := PX.allocE hH17.2 (.cells zF19 51)
          have hxg18 : xb ≤ xq17.heap.size := Nat.le_of_lt hH17.2.lt
          have hc18 : (fun wy => Below xb w wy ∧ PX NoE wy xb Cm R bs br (.slice A way.length c) (sP st' su' ss') (rP rt ru ro rr) way) (xq17.alloc (.cells zF19 51)) := ⟨hH17.1.alloc (Nat.le_of_lt hH17.2.lt) _, hH17.2.alloc _⟩
          generalize xq17.alloc (.cells zF19 51) = xq18 at hc18 kg18 pe18 ⊢
          generalize xq17.heap.size = gq18 at kg18 pe18 hxg18 ⊢
          refine hK.out _ _ hc18 (fun hH18 => ?_)
          clear hc18
          clear hK KK
          try simp only [zz1, zz2, zz3, Act.put, zz4, zz5, zz6]
          refine rdH [13] ?_
          refine c1H rfl fun KK hK => ?_
          rw [if_pos (by rfl)]
          refine wp_store_mid 51 _ _ rfl gq18 0 D rfl rfl (Blk.there kg18 0 _ (by rw [HDS.out]; exact Nat.le_refl _)) (by rw [HDS.out]; kernel_rfl) HD1.out ?_
          have kg19 : Blk (xq18.setCells gq18 0 (Array.toList D)) gq18 51 D := kg18.setAll (by rw [HDS.out]; rfl)
          have pe19 := pe18.far rfl (Array.toList D) 0
          have hc19 : (fun wy => Below xb w wy ∧ PX NoE wy xb Cm R bs br (.slice A way.length c) (sP st' su' ss') (rP rt ru ro rr) way) (xq18.setCells gq18 0 (Array.toList D)) := ⟨below_setCells hxg18 _ _ hH18.1, pe19.noE⟩
          generalize xq18.setCells gq18 0 (Array.toList D) = xq19 at hc19 kg19 pe19 ⊢
          refine hK.out _ _ hc19 (fun hH19 => ?_)
          clear hc19
          clear hK KK
          try simp only [zz1, zz2, zz3, Act.put, zz4, zz5, zz6]
          refine tkH 14 rfl (yieldsIf_pure _ (.int .i64 0) rfl (.inr rfl) rfl) hH19 ?_
          try simp only [zz1, zz2, zz3, Act.put, zz4, zz5, zz6]
          refine wpAnyH_done (by kernel_rfl) ?_ _
          have hz := hH19.2
          have hBz := hH19.1
          have kz := kg19
          clear hH19
          go_wp2_with (refine wpList_ldrow (by rfl) 51 _ (by rfl) gq18 (by rfl) 51 D (0, 0) _ kz Try.underlying51 (by rfl) (by rw [HDS.out]; kernel_rfl) ?_)
          refine (PUT.out _ hz).mono ?_
          rintro e wz ⟨rfl, hbz, hGz⟩
          go_wp2_with fail
          refine bodyPost_ret (v := .bool true) (by simp [results, Try.results50, go_sem]) rfl ?_
          exact ⟨rfl, hBz.trans hbz, hGz⟩
        refine AllReadyH.cons rfl (fun KK hK => ?_) ?_
        · rw [if_pos (by rfl)]
          refine wp_alloc_z 51 (by rfl) _ rfl zF19 zeroFr ?_
          have kg20 := Blk.new xq16 51 zF19
          have pe20 := PX.allocE hH.2 (.cells zF19 51)
          have hxg20 : xb ≤ xq16.heap.size := Nat.le_of_lt hH.2.lt
          have hc20 : (fun wy => Below xb w wy ∧ PX NoE wy xb Cm R bs br (.slice A way.length c) (sP st' su' ss') (rP rt ru ro rr) way) (xq16.alloc (.cells zF19 51)) := ⟨hH.1.alloc (Nat.le_of_lt hH.2.lt) _, hH.2.alloc _⟩
          generalize xq16.alloc (.cells zF19 51) = xq20 at hc20 kg20 pe20 ⊢
          generalize xq16.heap.size = gq20 at kg20 pe20 hxg20 ⊢
          refine hK.out _ _ hc20 (fun hH20 => ?_)
          clear hc20
          clear hK KK
          try simp only [zz1, zz2, zz3, Act.put, zz4, zz5, zz6]
          refine rdH [8] ?_
          refine c1H rfl fun KK hK => ?_
          go_simp
          refine (HEL.out _ _ hH20.2.s.at).mono ?_
          rintro e xq21 ⟨rfl, hb21⟩
          have kg21 := kg20.below hb21
          have pe21 := pe20.below hb21
          refine hK.out _ _ ⟨hH20.1.trans (hb21.mono (Nat.le_of_lt hH20.2.lt)), hH20.2.below hb21⟩ (fun hH21 => ?_)
          clear hK KK
          try simp only [zz1, zz2, zz3, Act.put, zz4, zz5, zz6]
          refine tkH 9 rfl (yieldsIf_pure _ (.tuple #[.agg D, .int .i64 0]) rfl (.inl rfl) rfl) hH21 ?_
          try simp only [zz1, zz2, zz3, Act.put, zz4, zz5, zz6]
          refine tkH 10 rfl (yieldsIf_cell (.agg D) rfl (fun w h => by go_simp)) hH21 ?_
          try simp only [zz1, zz2, zz3, Act.put, zz4, zz5, zz6]
          refine tkH 11 rfl (yieldsIf_cell (.int .i64 0) rfl (fun w h => by go_simp)) hH21 ?_
          try simp only [zz1, zz2, zz3, Act.put, zz4, zz5, zz6]
          refine rdH [13] ?_
          refine c1H rfl fun KK hK => ?_
          rw [if_pos (by rfl)]
          refine wp_store_mid 51 _ _ rfl gq20 0 D rfl rfl (Blk.there kg21 0 _ (by rw [HDS.out]; exact Nat.le_refl _)) (by rw [HDS.out]; kernel_rfl) HD1.out ?_
          have kg22 : Blk (xq21.setCells gq20 0 (Array.toList D)) gq20 51 D := kg21.setAll (by rw [HDS.out]; rfl)
          have pe22 := pe21.far rfl (Array.toList D) 0
          have hc22 : (fun wy => Below xb w wy ∧ PX NoE wy xb Cm R bs br (.slice A way.length c) (sP st' su' ss') (rP rt ru ro rr) way) (xq21.setCells gq20 0 (Array.toList D)) := ⟨below_setCells hxg20 _ _ hH21.1, pe22.noE⟩
          generalize xq21.setCells gq20 0 (Array.toList D) = xq22 at hc22 kg22 pe22 ⊢
          refine hK.out _ _ hc22 (fun hH22 => ?_)
          clear hc22
          clear hK KK
          try simp only [zz1, zz2, zz3, Act.put, zz4, zz5, zz6]
          refine tkH 14 rfl (yieldsIf_pure _ (.int .i64 0) rfl (.inr rfl) rfl) hH22 ?_
          try simp only [zz1, zz2, zz3, Act.put, zz4, zz5, zz6]
          refine wpAnyH_done (by kernel_rfl) ?_ _
          have hz := hH22.2
          have hBz := hH22.1
          have kz := kg22
          clear hH22
          go_wp2_with (refine wpList_ldrow (by rfl) 51 _ (by rfl) gq20 (by rfl) 51 D (0, 0) _ kz Try.underlying51 (by rfl) (by rw [HDS.out]; kernel_rfl) ?_)
          refine (PUT.out _ hz).mono ?_
          rintro e wz ⟨rfl, hbz, hGz⟩
          go_wp2_with fail
          refine bodyPost_ret (v := .bool true) (by simp [results, Try.results50, go_sem]) rfl ?_
          exact ⟨rfl, hBz.trans hbz, hGz⟩
        exact AllReadyH.nil
  · obtain ⟨rt', ru', ro', rr', v, ow, hmet, hI', hv3⟩ := hI.meetR hWY hf hto
    have MEET : Hid (∀ w, PrAt w (.agg R) (rP rt ru ro rr) → Calls Try.prog 18 #[.agg R, .int .u64 br, .agg C] w (MetPost (rP rt' ru' ro' rr') v ow w)) := Lib.hid (fun w hV => by
      have q := Meet_any (rP rt ru ro rr) hI.wfR br f hwf.1 (.agg R) w hV (hI.metR hWY hf hto)
      have e1 : mtV (rP rt ru ro rr) br f = (rP rt' ru' ro' rr', v, ow) := by unfold mtV; rw [if_pos (hI.metR hWY hf hto)]; exact hmet
      rw [fr_val, hC, e1, hI.metR hWY hf hto] at q
      refine q.mono ?_
      rintro e w' ⟨V, rfl, hp, hb⟩
      obtain ⟨C', rfl⟩ := hp.agg
      exact ⟨C', rfl, hp, hb⟩)
    have HSZ := Lib.hid h.r.size
    rw [hto] at C2
    clear hmet hC hI hwf
    go_enter Try.func50, Try.ntmps50
    go_upto_region 1 with fail
    have kf := Blk.new w 51 C
    have hB : Below xb w (w.alloc (.cells C 51)) := (Below.refl w.heap.size w |>.mono (Nat.le_of_lt h.lt)).alloc (Nat.le_of_lt h.lt) _
    replace h := h.alloc (.cells C 51)
    generalize w.alloc (.cells C 51) = w1 at kf h hB ⊢
    obtain ⟨g4, hg4⟩ : ∃ g4, w.heap.size = g4 := ⟨_, rfl⟩
    rw [hg4] at kf NX4 ⊢
    clear hg4
    have q2 := (kf.cell 2).trans C2
    go_upto_region 12 with fail
    clear q2
    go_cut [16, 17, 18, 19] (fun s7 s8 s9 s10 wx => ∃ (gz : Nat) (Cm : Array Value), s7 = .pointer (some ⟨gz, 0, none⟩) ∧ s8 = .int .i64 v ∧ s9 = .bool ow ∧ s10 = .int .i64 0 ∧ PX NoE wx xb S R bs br (.slice A way.length c) (sP st su ss) (rP rt ru ro rr) way ∧ Below xb w wx ∧ Blk wx g4 51 C ∧ PrN (Xp xb (.slice A way.length c) NoE) wx (.agg Cm) (rP rt' ru' ro' rr') ∧ Blk wx gz 31 Cm ∧ gz ≠ xb)
    case first =>
      refine wp_region_held_drew (S := fun wy => Below xb w wy ∧ PX NoE wy xb S R bs br (.slice A way.length c) (sP st su ss) (rP rt ru ro rr) way ∧ Blk wy g4 51 C) (by kernel_rfl) ⟨hB.drew, h.drew, kf.drew⟩ (fun hH => ?_)
      generalize w1.drew = xq29 at hH ⊢
      refine tkH 0 rfl (yieldsIf_pure _ (.pointer (some ⟨xb, 0, none⟩)) rfl (.inl rfl) rfl) hH ?_
      try simp only [zz1, zz2, zz3, Act.put, zz4, zz5, zz6]
      refine tkH 1 rfl (yieldsIf_cell (.pointer (some ⟨xb, 0, none⟩)) rfl (fun w h => rfl)) hH ?_
      try simp only [zz1, zz2, zz3, Act.put, zz4, zz5, zz6]
      refine tkH 2 rfl (yieldsIf_cell (.pointer (some ⟨xb, 13, none⟩)) rfl (fun w h => by go_simp)) hH ?_
      try simp only [zz1, zz2, zz3, Act.put, zz4, zz5, zz6]
      refine tkH 3 rfl (yS rfl _ rfl xb 13 rfl R (fun w h => h.2.1.rngR) HSZ.out) hH ?_
      try simp only [zz1, zz2, zz3, Act.put, zz4, zz5, zz6]
      refine tkH 4 rfl (yieldsIf_pure _ (.pointer (some ⟨xb, 0, none⟩)) rfl (.inl rfl) rfl) hH ?_
      try simp only [zz1, zz2, zz3, Act.put, zz4, zz5, zz6]
      refine tkH 5 rfl (yieldsIf_cell (.pointer (some ⟨xb, 0, none⟩)) rfl (fun w h => rfl)) hH ?_
      try simp only [zz1, zz2, zz3, Act.put, zz4, zz5, zz6]
      refine tkH 6 rfl (yieldsIf_cell (.pointer (some ⟨xb, 27, none⟩)) rfl (fun w h => by go_simp)) hH ?_
      try simp only [zz1, zz2, zz3, Act.put, zz4, zz5, zz6]
      refine tkH 7 rfl (yieldsIf_cell (.int .u64 br) rfl (fun wy h => by have j0 := h.2.1.c27; go_simp)) hH ?_
      try simp only [zz1, zz2, zz3, Act.put, zz4, zz5, zz6]
      refine tkH 8 rfl (yieldsIf_row (g4) 51 C 51 _ _ rfl rfl rfl (fun w h => h.2.2) Try.underlying51 rfl (by rw [HCS.out]; kernel_rfl)) hH ?_
      try simp only [zz1, zz2, zz3, Act.put, zz4, zz5, zz6]
      refine rdH [9, 15] ?_
      refine AllReadyH.cons rfl (fun KK hK => ?_) ?_
      · go_simp
        refine (MEET.out _ hH.2.1.r.at).mono ?_
        rintro e xq44 ⟨Cm, rfl, hr44, hb44⟩
        have pz44 := PrN.ofB hr44 (hH.2.1.newX (noE_lt _))
        have HQS := Lib.hid pz44.size
        have HQ1 := Lib.hid pz44.one
        clear hr44
        refine hK.out _ _ ⟨hH.1.trans (hb44.mono (Nat.le_of_lt hH.2.1.lt)), hH.2.1.below hb44, hH.2.2.below hb44⟩ (fun hH44 => ?_)
        clear hK KK
        try simp only [zz1, zz2, zz3, Act.put, zz4, zz5, zz6]
        refine tkH 10 rfl (yieldsIf_pure _ (.tuple #[.agg Cm, .int .i64 v, .bool ow, .int .i64 0]) rfl (.inl rfl) rfl) hH44 ?_
        try simp only [zz1, zz2, zz3, Act.put, zz4, zz5, zz6]
        refine tkH 11 rfl (yieldsIf_cell (.agg Cm) rfl (fun w h => by go_simp)) hH44 ?_
        try simp only [zz1, zz2, zz3, Act.put, zz4, zz5, zz6]
        refine tkH 12 rfl (yieldsIf_cell (.int .i64 v) rfl (fun w h => by go_simp)) hH44 ?_
        try simp only [zz1, zz2, zz3, Act.put, zz4, zz5, zz6]
        refine tkH 13 rfl (yieldsIf_cell (.bool ow) rfl (fun w h => by go_simp)) hH44 ?_
        try simp only [zz1, zz2, zz3, Act.put, zz4, zz5, zz6]
        refine tkH 14 rfl (yieldsIf_cell (.int .i64 0) rfl (fun w h => by go_simp)) hH44 ?_
        try simp only [zz1, zz2, zz3, Act.put, zz4, zz5, zz6]
        refine rdH [15] ?_
        refine c1H rfl fun KK hK => ?_
        rw [if_pos (by rfl)]
        refine wp_alloc_z 31 (by rfl) _ rfl #[.int .i64 0, .int .u64 0, .bool false, .int .u64 0, .int .u64 0, .int .u64 0, .int .u64 0, .slice none 0 0, .int .u64 0, .int .u64 0, .int .u64 0, .slice none 0 0, .slice none 0 0] (fun w => by kernel_rfl) ?_
        have kg45 := Blk.new xq44 31 #[.int .i64 0, .int .u64 0, .bool false, .int .u64 0, .int .u64 0, .int .u64 0, .int .u64 0, .slice none 0 0, .int .u64 0, .int .u64 0, .int .u64 0, .slice none 0 0, .slice none 0 0]
        have pe45 := PX.allocE hH44.2.1 (.cells #[.int .i64 0, .int .u64 0, .bool false, .int .u64 0, .int .u64 0, .int .u64 0, .int .u64 0, .slice none 0 0, .int .u64 0, .int .u64 0, .int .u64 0, .slice none 0 0, .slice none 0 0] 31)
        have pz45 := PrN.allocE pz44 (.cells #[.int .i64 0, .int .u64 0, .bool false, .int .u64 0, .int .u64 0, .int .u64 0, .int .u64 0, .slice none 0 0, .int .u64 0, .int .u64 0, .int .u64 0, .slice none 0 0, .slice none 0 0] 31)
        have hxg45 : xb ≤ xq44.heap.size := Nat.le_of_lt hH44.2.1.lt
        have ne45_0 : ¬ g4 = xq44.heap.size := Nat.ne_of_lt hH44.2.2.lt
        have hc45 : (fun wy => Below xb w wy ∧ PX NoE wy xb S R bs br (.slice A way.length c) (sP st su ss) (rP rt ru ro rr) way ∧ Blk wy g4 51 C) (xq44.alloc (.cells #[.int .i64 0, .int .u64 0, .bool false, .int .u64 0, .int .u64 0, .int .u64 0, .int .u64 0, .slice none 0 0, .int .u64 0, .int .u64 0, .int .u64 0, .slice none 0 0, .slice none 0 0] 31)) := ⟨hH44.1.alloc (Nat.le_of_lt hH44.2.1.lt) _, hH44.2.1.alloc _, hH44.2.2.alloc _⟩
        generalize xq44.alloc (.cells #[.int .i64 0, .int .u64 0, .bool false, .int .u64 0, .int .u64 0, .int .u64 0, .int .u64 0, .slice none 0 0, .int .u64 0, .int .u64 0, .int .u64 0, .slice none 0 0, .slice none 0 0] 31) = xq45 at hc45 kg45 pe45 pz45 ⊢
        generalize xq44.heap.size = gq45 at kg45 pe45 pz45 hxg45 ne45_0 ⊢
        refine hK.out _ _ hc45 (fun hH45 => ?_)
        clear hc45
        clear hK KK
        try simp only [zz1, zz2, zz3, Act.put, zz4, zz5, zz6]
        refine rdH [16] ?_
        refine c1H rfl fun KK hK => ?_
        rw [if_pos (by rfl)]
        refine wp_store_mid 31 _ _ rfl gq45 0 Cm rfl rfl (Blk.there kg45 0 _ (by rw [HQS.out]; exact Nat.le_refl _)) (by rw [HQS.out]; kernel_rfl) HQ1.out ?_
        have kg46 : Blk (xq45.setCells gq45 0 (Array.toList Cm)) gq45 31 Cm := kg45.setAll (by rw [HQS.out]; rfl)
        have pe46 := pe45.far rfl (Array.toList Cm) 0
        have pz46 := pz45.setCells (.inr (.inr rfl)) (Array.toList Cm) 0
        have hc46 : (fun wy => Below xb w wy ∧ PX NoE wy xb S R bs br (.slice A way.length c) (sP st su ss) (rP rt ru ro rr) way ∧ Blk wy g4 51 C) (xq45.setCells gq45 0 (Array.toList Cm)) := ⟨below_setCells hxg45 _ _ hH45.1, pe46.noE, hH45.2.2.farAll ne45_0 _ _⟩
        generalize xq45.setCells gq45 0 (Array.toList Cm) = xq46 at hc46 kg46 pe46 pz46 ⊢
        refine hK.out _ _ hc46 (fun hH46 => ?_)
        clear hc46
        clear hK KK
        try simp only [zz1, zz2, zz3, Act.put, zz4, zz5, zz6]
        refine tkH 17 rfl (yieldsIf_pure _ (.int .i64 v) rfl (.inr rfl) rfl) hH46 ?_
        try simp only [zz1, zz2, zz3, Act.put, zz4, zz5, zz6]
        refine tkH 18 rfl (yieldsIf_pure _ (.bool ow) rfl (.inr rfl) rfl) hH46 ?_
        try simp only [zz1, zz2, zz3, Act.put, zz4, zz5, zz6]
        refine tkH 19 rfl (yieldsIf_pure _ (.int .i64 0) rfl (.inr rfl) rfl) hH46 ?_
        try simp only [zz1, zz2, zz3, Act.put, zz4, zz5, zz6]
        refine wpAnyH_done (by kernel_rfl) ?_ _
        go_wp2_with fail
        go_meet
        exact ⟨_, Cm, rfl, rfl, rfl, rfl, hH46.2.1, hH46.1, hH46.2.2, pz46.noE, kg46, (pe46.ne _ rfl).1⟩
      refine AllReadyH.cons rfl (fun KK hK => ?_) ?_
      · rw [if_pos (by rfl)]
        refine wp_alloc_z 31 (by rfl) _ rfl #[.int .i64 0, .int .u64 0, .bool false, .int .u64 0, .int .u64 0, .int .u64 0, .int .u64 0, .slice none 0 0, .int .u64 0, .int .u64 0, .int .u64 0, .slice none 0 0, .slice none 0 0] (fun w => by kernel_rfl) ?_
        have kg47 := Blk.new xq29 31 #[.int .i64 0, .int .u64 0, .bool false, .int .u64 0, .int .u64 0, .int .u64 0, .int .u64 0, .slice none 0 0, .int .u64 0, .int .u64 0, .int .u64 0, .slice none 0 0, .slice none 0 0]
        have pe47 := PX.allocE hH.2.1 (.cells #[.int .i64 0, .int .u64 0, .bool false, .int .u64 0, .int .u64 0, .int .u64 0, .int .u64 0, .slice none 0 0, .int .u64 0, .int .u64 0, .int .u64 0, .slice none 0 0, .slice none 0 0] 31)
        have hxg47 : xb ≤ xq29.heap.size := Nat.le_of_lt hH.2.1.lt
        have ne47_0 : ¬ g4 = xq29.heap.size := Nat.ne_of_lt hH.2.2.lt
        have hc47 : (fun wy => Below xb w wy ∧ PX NoE wy xb S R bs br (.slice A way.length c) (sP st su ss) (rP rt ru ro rr) way ∧ Blk wy g4 51 C) (xq29.alloc (.cells #[.int .i64 0, .int .u64 0, .bool false, .int .u64 0, .int .u64 0, .int .u64 0, .int .u64 0, .slice none 0 0, .int .u64 0, .int .u64 0, .int .u64 0, .slice none 0 0, .slice none 0 0] 31)) := ⟨hH.1.alloc (Nat.le_of_lt hH.2.1.lt) _, hH.2.1.alloc _, hH.2.2.alloc _⟩
        generalize xq29.alloc (.cells #[.int .i64 0, .int .u64 0, .bool false, .int .u64 0, .int .u64 0, .int .u64 0, .int .u64 0, .slice none 0 0, .int .u64 0, .int .u64 0, .int .u64 0, .slice none 0 0, .slice none 0 0] 31) = xq47 at hc47 kg47 pe47 ⊢
        generalize xq29.heap.size = gq47 at kg47 pe47 hxg47 ne47_0 ⊢
        refine hK.out _ _ hc47 (fun hH47 => ?_)
        clear hc47
        clear hK KK
        try simp only [zz1, zz2, zz3, Act.put, zz4, zz5, zz6]
        refine rdH [9] ?_
        refine c1H rfl fun KK hK => ?_
        go_simp
        refine (MEET.out _ hH47.2.1.r.at).mono ?_
        rintro e xq48 ⟨Cm, rfl, hr48, hb48⟩
        have kg48 := kg47.below hb48
        have pe48 := pe47.below hb48
        have pz48 := PrN.ofB hr48 (pe47.newX (fun b c => c ▸ kg47.lt))
        have HQS := Lib.hid pz48.size
        have HQ1 := Lib.hid pz48.one
        clear hr48
        refine hK.out _ _ ⟨hH47.1.trans (hb48.mono (Nat.le_of_lt hH47.2.1.lt)), hH47.2.1.below hb48, hH47.2.2.below hb48⟩ (fun hH48 => ?_)
        clear hK KK
        try simp only [zz1, zz2, zz3, Act.put, zz4, zz5, zz6]
        refine tkH 10 rfl (yieldsIf_pure _ (.tuple #[.agg Cm, .int .i64 v, .bool ow, .int .i64 0]) rfl (.inl rfl) rfl) hH48 ?_
        try simp only [zz1, zz2, zz3, Act.put, zz4, zz5, zz6]
        refine tkH 11 rfl (yieldsIf_cell (.agg Cm) rfl (fun w h => by go_simp)) hH48 ?_
        try simp only [zz1, zz2, zz3, Act.put, zz4, zz5, zz6]
        refine tkH 12 rfl (yieldsIf_cell (.int .i64 v) rfl (fun w h => by go_simp)) hH48 ?_
        try simp only [zz1, zz2, zz3, Act.put, zz4, zz5, zz6]
        refine tkH 13 rfl (yieldsIf_cell (.bool ow) rfl (fun w h => by go_simp)) hH48 ?_
        try simp only [zz1, zz2, zz3, Act.put, zz4, zz5, zz6]
        refine tkH 14 rfl (yieldsIf_cell (.int .i64 0) rfl (fun w h => by go_simp)) hH48 ?_
        try simp only [zz1, zz2, zz3, Act.put, zz4, zz5, zz6]
        refine rdH [16] ?_
        refine c1H rfl fun KK hK => ?_
        rw [if_pos (by rfl)]
        refine wp_store_mid 31 _ _ rfl gq47 0 Cm rfl rfl (Blk.there kg48 0 _ (by rw [HQS.out]; exact Nat.le_refl _)) (by rw [HQS.out]; kernel_rfl) HQ1.out ?_
        have kg49 : Blk (xq48.setCells gq47 0 (Array.toList Cm)) gq47 31 Cm := kg48.setAll (by rw [HQS.out]; rfl)
        have pe49 := pe48.far rfl (Array.toList Cm) 0
        have pz49 := pz48.setCells (.inr (.inr rfl)) (Array.toList Cm) 0
        have hc49 : (fun wy => Below xb w wy ∧ PX NoE wy xb S R bs br (.slice A way.length c) (sP st su ss) (rP rt ru ro rr) way ∧ Blk wy g4 51 C) (xq48.setCells gq47 0 (Array.toList Cm)) := ⟨below_setCells hxg47 _ _ hH48.1, pe49.noE, hH48.2.2.farAll ne47_0 _ _⟩
        generalize xq48.setCells gq47 0 (Array.toList Cm) = xq49 at hc49 kg49 pe49 pz49 ⊢
        refine hK.out _ _ hc49 (fun hH49 => ?_)
        clear hc49
        clear hK KK
        try simp only [zz1, zz2, zz3, Act.put, zz4, zz5, zz6]
        refine tkH 17 rfl (yieldsIf_pure _ (.int .i64 v) rfl (.inr rfl) rfl) hH49 ?_
        try simp only [zz1, zz2, zz3, Act.put, zz4, zz5, zz6]
        refine tkH 18 rfl (yieldsIf_pure _ (.bool ow) rfl (.inr rfl) rfl) hH49 ?_
        try simp only [zz1, zz2, zz3, Act.put, zz4, zz5, zz6]
        refine tkH 19 rfl (yieldsIf_pure _ (.int .i64 0) rfl (.inr rfl) rfl) hH49 ?_
        try simp only [zz1, zz2, zz3, Act.put, zz4, zz5, zz6]
        refine wpAnyH_done (by kernel_rfl) ?_ _
        go_wp2_with fail
        go_meet
        exact ⟨_, Cm, rfl, rfl, rfl, rfl, hH49.2.1, hH49.1, hH49.2.2, pz49.noE, kg49, (pe49.ne _ rfl).1⟩
      exact AllReadyH.nil
    case rest =>
    clear h kf hB MEET
    obtain ⟨gz, Cm, rfl, rfl, rfl, rfl, hz, hBz, kfz, pzz, kz, nez⟩ := hcut
    generalize wc = wz at hz hBz kfz pzz kz ⊢
    have HQS := Lib.hid pzz.size
    have HQ1 := Lib.hid pzz.one
    go_upto_region 14 with (go_big_may; first | (refine wpList_ldrow (by rfl) 31 _ (by rfl) gz (by rfl) 31 Cm (0, 0) _ kz Try.underlying31 (by rfl) (by rw [HQS.out]; kernel_rfl) ?_) | (refine wpList_store_gen (by rfl) 31 _ _ (by rfl) xb 13 Cm (by rfl) (by rfl) (by rw [HQS.out]; exact hz.there 13 13 (by decide)) (by rw [HQS.out]; kernel_rfl) HQ1.out ?_; intro W1 hW1))
    have h1 := hz.setR pzz
    have hB1 : Below xb w W1 := by rw [hW1.out]; exact below_setCells (Nat.le_refl _) _ _ hBz
    have kf1 : Blk W1 g4 51 C := by rw [hW1.out]; exact kfz.farAll NX4.out _ _
    have kz1 : Blk W1 gz 31 Cm := by rw [hW1.out]; exact kz.farAll nez _ _
    have pz1 := pzz.setCells (g := xb) (.inl rfl) Cm.toList 13
    rw [← hW1.out] at h1 pz1
    clear hz hBz kfz pzz kz hW1
    have q0 := (kf1.cell 0).trans C0
    have q5 := (kf1.cell 5).trans C5
    have HTH : Hid (0 ≤ rt') := Lib.hid hI'.tr.1
    by_cases hv : v = 3
    · subst hv
      obtain ⟨rfl, hyo, hm, hrt⟩ := hv3 rfl
      have TK := Lib.hid (fun w h => ptake_any hI' hrt hWY f hf hto hm hyo xb S Cm (.slice A way.length c) w h)
      rw [fr_val, HC.out] at TK
      go_wp2_with (refine wpList_ldrow (by rfl) 51 _ (by rfl) g4 (by rfl) 51 C (0, 0) _ kf1 Try.underlying51 (by rfl) (by rw [HCS.out]; kernel_rfl) ?_)
      refine (TK.out _ h1).mono ?_
      rintro e Wq ⟨rfl, hb, z, R2, hI2, h2⟩
      have hB2 := hB1.trans hb
      clear hb h1 hB1 pz1 kz1 kf1 TK q0 q5
      go_upto_region 16 with fail
      cases ow with
      | false =>
        go_wp2_with fail
        refine bodyPost_ret (v := .bool true) (by simp [results, Try.results50, go_sem]) rfl ?_
        exact ⟨rfl, hB2, bs, br, _, _, _, _, _, _, _, way, S, R2, A, c, hI2, hWY, hwl, h2⟩
      | true =>
        obtain ⟨D, hD⟩ : ∃ D, (frB (rP rt' true ro' z) 2 br 1 0 0).cells.toArray = D := ⟨_, rfl⟩
        have HDS : Hid (D.size = 19) := Lib.hid (by rw [← hD]; rfl)
        have HD1 : Hid (D.all (·.oneCell') = true) := Lib.hid (by rw [← hD]; exact fr_all _)
        have HEL := Lib.hid (fun V w h => hello_ra hI2 V w h)
        have PUT := Lib.hid (fun w h => put_act hI2 hWY hwl (frB (rP rt' true ro' z) 2 br 1 0 0) 0 (fun _ => ⟨hI2.hello_r, HTH.out⟩) (.inl rfl) (xb := xb) (S := S) (R := R2) (A := A) (c := c) w h)
        rw [hD] at HEL PUT
        have HSZq := Lib.hid h2.r.size
        have hq := h2
        have hBq := hB2
        clear hD
        go_upto_region 17 with fail
        try clear h2 hB2
        skip
        refine wp_region_held_drew (S := fun wy => Below xb w wy ∧ PX NoE wy xb S R2 bs br (.slice A way.length c) (sP st su ss) (rP rt' true ro' z) way) (by kernel_rfl) ⟨hBq.drew, hq.drew⟩ (fun hH => ?_)
        generalize Wq.drew = xq30 at hH ⊢
        refine tkH 0 rfl (yieldsIf_pure _ (.pointer (some ⟨xb, 0, none⟩)) rfl (.inl rfl) rfl) hH ?_
        try simp only [zz1, zz2, zz3, Act.put, zz4, zz5, zz6]
        refine tkH 1 rfl (yieldsIf_cell (.pointer (some ⟨xb, 0, none⟩)) rfl (fun w h => rfl)) hH ?_
        try simp only [zz1, zz2, zz3, Act.put, zz4, zz5, zz6]
        refine tkH 2 rfl (yieldsIf_cell (.pointer (some ⟨xb, 13, none⟩)) rfl (fun w h => by go_simp)) hH ?_
        try simp only [zz1, zz2, zz3, Act.put, zz4, zz5, zz6]
        refine tkH 3 rfl (yS rfl _ rfl xb 13 rfl R2 (fun w h => h.2.rngR) HSZq.out) hH ?_
        try simp only [zz1, zz2, zz3, Act.put, zz4, zz5, zz6]
        refine tkH 4 rfl (yieldsIf_pure _ (.pointer (some ⟨xb, 0, none⟩)) rfl (.inl rfl) rfl) hH ?_
        try simp only [zz1, zz2, zz3, Act.put, zz4, zz5, zz6]
        refine tkH 5 rfl (yieldsIf_cell (.pointer (some ⟨xb, 0, none⟩)) rfl (fun w h => rfl)) hH ?_
        try simp only [zz1, zz2, zz3, Act.put, zz4, zz5, zz6]
        refine tkH 6 rfl (yieldsIf_cell (.pointer (some ⟨xb, 27, none⟩)) rfl (fun w h => by go_simp)) hH ?_
        try simp only [zz1, zz2, zz3, Act.put, zz4, zz5, zz6]
        refine tkH 7 rfl (yieldsIf_cell (.int .u64 br) rfl (fun wy h => by have j0 := h.2.c27; go_simp)) hH ?_
        try simp only [zz1, zz2, zz3, Act.put, zz4, zz5, zz6]
        refine rdH [8, 12] ?_
        refine AllReadyH.cons rfl (fun KK hK => ?_) ?_
        · go_simp
          refine (HEL.out _ _ hH.2.r.at).mono ?_
          rintro e xq31 ⟨rfl, hb31⟩
          refine hK.out _ _ ⟨hH.1.trans (hb31.mono (Nat.le_of_lt hH.2.lt)), hH.2.below hb31⟩ (fun hH31 => ?_)
          clear hK KK
          try simp only [zz1, zz2, zz3, Act.put, zz4, zz5, zz6]
          refine tkH 9 rfl (yieldsIf_pure _ (.tuple #[.agg D, .int .i64 0]) rfl (.inl rfl) rfl) hH31 ?_
          try simp only [zz1, zz2, zz3, Act.put, zz4, zz5, zz6]
          refine tkH 10 rfl (yieldsIf_cell (.agg D) rfl (fun w h => by go_simp)) hH31 ?_
          try simp only [zz1, zz2, zz3, Act.put, zz4, zz5, zz6]
          refine tkH 11 rfl (yieldsIf_cell (.int .i64 0) rfl (fun w h => by go_simp)) hH31 ?_
          try simp only [zz1, zz2, zz3, Act.put, zz4, zz5, zz6]
          refine rdH [12] ?_
          refine c1H rfl fun KK hK => ?_
          rw [if_pos (by rfl)]
          refine wp_alloc_z 51 (by rfl) _ rfl zF19 zeroFr ?_
          have kg32 := Blk.new xq31 51 zF19
          have pe32 := PX.allocE hH31.2 (.cells zF19 51)
          have hxg32 : xb ≤ xq31.heap.size := Nat.le_of_lt hH31.2.lt
          have hc32 : (fun wy => Below xb w wy ∧ PX NoE wy xb S R2 bs br (.slice A way.length c) (sP st su ss) (rP rt' true ro' z) way) (xq31.alloc (.cells zF19 51)) := ⟨hH31.1.alloc (Nat.le_of_lt hH31.2.lt) _, hH31.2.alloc _⟩
          generalize xq31.alloc (.cells zF19 51) = xq32 at hc32 kg32 pe32 ⊢
          generalize xq31.heap.size = gq32 at kg32 pe32 hxg32 ⊢
          refine hK.out _ _ hc32 (fun hH32 => ?_)
          clear hc32
          clear hK KK
          try simp only [zz1, zz2, zz3, Act.put, zz4, zz5, zz6]
          refine rdH [13] ?_
          refine c1H rfl fun KK hK => ?_
          rw [if_pos (by rfl)]
          refine wp_store_mid 51 _ _ rfl gq32 0 D rfl rfl (Blk.there kg32 0 _ (by rw [HDS.out]; exact Nat.le_refl _)) (by rw [HDS.out]; kernel_rfl) HD1.out ?_
          have kg33 : Blk (xq32.setCells gq32 0 (Array.toList D)) gq32 51 D := kg32.setAll (by rw [HDS.out]; rfl)
          have pe33 := pe32.far rfl (Array.toList D) 0
          have hc33 : (fun wy => Below xb w wy ∧ PX NoE wy xb S R2 bs br (.slice A way.length c) (sP st su ss) (rP rt' true ro' z) way) (xq32.setCells gq32 0 (Array.toList D)) := ⟨below_setCells hxg32 _ _ hH32.1, pe33.noE⟩
          generalize xq32.setCells gq32 0 (Array.toList D) = xq33 at hc33 kg33 pe33 ⊢
          refine hK.out _ _ hc33 (fun hH33 => ?_)
          clear hc33
          clear hK KK
          try simp only [zz1, zz2, zz3, Act.put, zz4, zz5, zz6]
          refine tkH 14 rfl (yieldsIf_pure _ (.int .i64 0) rfl (.inr rfl) rfl) hH33 ?_
          try simp only [zz1, zz2, zz3, Act.put, zz4, zz5, zz6]
          refine wpAnyH_done (by kernel_rfl) ?_ _
          have hz := hH33.2
          have hBz := hH33.1
          have kz := kg33
          clear hH33
          go_wp2_with (refine wpList_ldrow (by rfl) 51 _ (by rfl) gq32 (by rfl) 51 D (0, 0) _ kz Try.underlying51 (by rfl) (by rw [HDS.out]; kernel_rfl) ?_)
          refine (PUT.out _ hz).mono ?_
          rintro e wz ⟨rfl, hbz, hGz⟩
          go_wp2_with fail
          refine bodyPost_ret (v := .bool true) (by simp [results, Try.results50, go_sem]) rfl ?_
          exact ⟨rfl, hBz.trans hbz, hGz⟩
        refine AllReadyH.cons rfl (fun KK hK => ?_) ?_
        · rw [if_pos (by rfl)]
          refine wp_alloc_z 51 (by rfl) _ rfl zF19 zeroFr ?_
          have kg34 := Blk.new xq30 51 zF19
          have pe34 := PX.allocE hH.2 (.cells zF19 51)
          have hxg34 : xb ≤ xq30.heap.size := Nat.le_of_lt hH.2.lt
          have hc34 : (fun wy => Below xb w wy ∧ PX NoE wy xb S R2 bs br (.slice A way.length c) (sP st su ss) (rP rt' true ro' z) way) (xq30.alloc (.cells zF19 51)) := ⟨hH.1.alloc (Nat.le_of_lt hH.2.lt) _, hH.2.alloc _⟩
          generalize xq30.alloc (.cells zF19 51) = xq34 at hc34 kg34 pe34 ⊢
          generalize xq30.heap.size = gq34 at kg34 pe34 hxg34 ⊢
          refine hK.out _ _ hc34 (fun hH34 => ?_)
          clear hc34
          clear hK KK
          try simp only [zz1, zz2, zz3, Act.put, zz4, zz5, zz6]
          refine rdH [8] ?_
          refine c1H rfl fun KK hK => ?_
          go_simp
          refine (HEL.out _ _ hH34.2.r.at).mono ?_
          rintro e xq35 ⟨rfl, hb35⟩
          have kg35 := kg34.below hb35
          have pe35 := pe34.below hb35
          refine hK.out _ _ ⟨hH34.1.trans (hb35.mono (Nat.le_of_lt hH34.2.lt)), hH34.2.below hb35⟩ (fun hH35 => ?_)
          clear hK KK
          try simp only [zz1, zz2, zz3, Act.put, zz4, zz5, zz6]
          refine tkH 9 rfl (yieldsIf_pure _ (.tuple #[.agg D, .int .i64 0]) rfl (.inl rfl) rfl) hH35 ?_
          try simp only [zz1, zz2, zz3, Act.put, zz4, zz5, zz6]
          refine tkH 10 rfl (yieldsIf_cell (.agg D) rfl (fun w h => by go_simp)) hH35 ?_
          try simp only [zz1, zz2, zz3, Act.put, zz4, zz5, zz6]
          refine tkH 11 rfl (yieldsIf_cell (.int .i64 0) rfl (fun w h => by go_simp)) hH35 ?_
          try simp only [zz1, zz2, zz3, Act.put, zz4, zz5, zz6]
          refine rdH [13] ?_
          refine c1H rfl fun KK hK => ?_
          rw [if_pos (by rfl)]
          refine wp_store_mid 51 _ _ rfl gq34 0 D rfl rfl (Blk.there kg35 0 _ (by rw [HDS.out]; exact Nat.le_refl _)) (by rw [HDS.out]; kernel_rfl) HD1.out ?_
          have kg36 : Blk (xq35.setCells gq34 0 (Array.toList D)) gq34 51 D := kg35.setAll (by rw [HDS.out]; rfl)
          have pe36 := pe35.far rfl (Array.toList D) 0
          have hc36 : (fun wy => Below xb w wy ∧ PX NoE wy xb S R2 bs br (.slice A way.length c) (sP st su ss) (rP rt' true ro' z) way) (xq35.setCells gq34 0 (Array.toList D)) := ⟨below_setCells hxg34 _ _ hH35.1, pe36.noE⟩
          generalize xq35.setCells gq34 0 (Array.toList D) = xq36 at hc36 kg36 pe36 ⊢
          refine hK.out _ _ hc36 (fun hH36 => ?_)
          clear hc36
          clear hK KK
          try simp only [zz1, zz2, zz3, Act.put, zz4, zz5, zz6]
          refine tkH 14 rfl (yieldsIf_pure _ (.int .i64 0) rfl (.inr rfl) rfl) hH36 ?_
          try simp only [zz1, zz2, zz3, Act.put, zz4, zz5, zz6]
          refine wpAnyH_done (by kernel_rfl) ?_ _
          have hz := hH36.2
          have hBz := hH36.1
          have kz := kg36
          clear hH36
          go_wp2_with (refine wpList_ldrow (by rfl) 51 _ (by rfl) gq34 (by rfl) 51 D (0, 0) _ kz Try.underlying51 (by rfl) (by rw [HDS.out]; kernel_rfl) ?_)
          refine (PUT.out _ hz).mono ?_
          rintro e wz ⟨rfl, hbz, hGz⟩
          go_wp2_with fail
          refine bodyPost_ret (v := .bool true) (by simp [results, Try.results50, go_sem]) rfl ?_
          exact ⟨rfl, hBz.trans hbz, hGz⟩
        exact AllReadyH.nil
    · have e2 : (v == 3) = false := by simpa using hv
      go_upto_region 16 with fail
      clear q0 q5 kf1 kz1 pz1
      generalize W1 = Wq at h1 hB1 ⊢
      cases ow with
      | false =>
        go_wp2_with fail
        refine bodyPost_ret (v := .bool true) (by simp [results, Try.results50, go_sem]) rfl ?_
        exact ⟨rfl, hB1, bs, br, _, _, _, _, _, _, _, way, S, Cm, A, c, hI', hWY, hwl, h1⟩
      | true =>
        obtain ⟨D, hD⟩ : ∃ D, (frB (rP rt' ru' ro' rr') 2 br 1 0 0).cells.toArray = D := ⟨_, rfl⟩
        have HDS : Hid (D.size = 19) := Lib.hid (by rw [← hD]; rfl)
        have HD1 : Hid (D.all (·.oneCell') = true) := Lib.hid (by rw [← hD]; exact fr_all _)
        have HEL := Lib.hid (fun V w h => hello_ra hI' V w h)
        have PUT := Lib.hid (fun w h => put_act hI' hWY hwl (frB (rP rt' ru' ro' rr') 2 br 1 0 0) 0 (fun _ => ⟨hI'.hello_r, HTH.out⟩) (.inl rfl) (xb := xb) (S := S) (R := Cm) (A := A) (c := c) w h)
        rw [hD] at HEL PUT
        have HSZq := Lib.hid h1.r.size
        have hq := h1
        have hBq := hB1
        clear hD
        go_upto_region 17 with fail
        try clear h1 hB1
        skip
        refine wp_region_held_drew (S := fun wy => Below xb w wy ∧ PX NoE wy xb S Cm bs br (.slice A way.length c) (sP st su ss) (rP rt' ru' ro' rr') way) (by kernel_rfl) ⟨hBq.drew, hq.drew⟩ (fun hH => ?_)
        generalize Wq.drew = xq37 at hH ⊢
        refine tkH 0 rfl (yieldsIf_pure _ (.pointer (some ⟨xb, 0, none⟩)) rfl (.inl rfl) rfl) hH ?_
        try simp only [zz1, zz2, zz3, Act.put, zz4, zz5, zz6]
        refine tkH 1 rfl (yieldsIf_cell (.pointer (some ⟨xb, 0, none⟩)) rfl (fun w h => rfl)) hH ?_
        try simp only [zz1, zz2, zz3, Act.put, zz4, zz5, zz6]
        refine tkH 2 rfl (yieldsIf_cell (.pointer (some ⟨xb, 13, none⟩)) rfl (fun w h => by go_simp)) hH ?_
        try simp only [zz1, zz2, zz3, Act.put, zz4, zz5, zz6]
        refine tkH 3 rfl (yS rfl _ rfl xb 13 rfl Cm (fun w h => h.2.rngR) HSZq.out) hH ?_
        try simp only [zz1, zz2, zz3, Act.put, zz4, zz5, zz6]
        refine tkH 4 rfl (yieldsIf_pure _ (.pointer (some ⟨xb, 0, none⟩)) rfl (.inl rfl) rfl) hH ?_
        try simp only [zz1, zz2, zz3, Act.put, zz4, zz5, zz6]
        refine tkH 5 rfl (yieldsIf_cell (.pointer (some ⟨xb, 0, none⟩)) rfl (fun w h => rfl)) hH ?_
        try simp only [zz1, zz2, zz3, Act.put, zz4, zz5, zz6]
        refine tkH 6 rfl (yieldsIf_cell (.pointer (some ⟨xb, 27, none⟩)) rfl (fun w h => by go_simp)) hH ?_
        try simp only [zz1, zz2, zz3, Act.put, zz4, zz5, zz6]
        refine tkH 7 rfl (yieldsIf_cell (.int .u64 br) rfl (fun wy h => by have j0 := h.2.c27; go_simp)) hH ?_
        try simp only [zz1, zz2, zz3, Act.put, zz4, zz5, zz6]
        refine rdH [8, 12] ?_
        refine AllReadyH.cons rfl (fun KK hK => ?_) ?_
        · go_simp
          refine (HEL.out _ _ hH.2.r.at).mono ?_
          rintro e xq38 ⟨rfl, hb38⟩
          refine hK.out _ _ ⟨hH.1.trans (hb38.mono (Nat.le_of_lt hH.2.lt)), hH.2.below hb38⟩ (fun hH38 => ?_)
          clear hK KK
          try simp only [zz1, zz2, zz3, Act.put, zz4, zz5, zz6]
          refine tkH 9 rfl (yieldsIf_pure _ (.tuple #[.agg D, .int .i64 0]) rfl (.inl rfl) rfl) hH38 ?_
          try simp only [zz1, zz2, zz3, Act.put, zz4, zz5, zz6]
          refine tkH 10 rfl (yieldsIf_cell (.agg D) rfl (fun w h => by go_simp)) hH38 ?_
          try simp only [zz1, zz2, zz3, Act.put, zz4, zz5, zz6]
          refine tkH 11 rfl (yieldsIf_cell (.int .i64 0) rfl (fun w h => by go_simp)) hH38 ?_
          try simp only [zz1, zz2, zz3, Act.put, zz4, zz5, zz6]
          refine rdH [12] ?_
          refine c1H rfl fun KK hK => ?_
          rw [if_pos (by rfl)]
          refine wp_alloc_z 51 (by rfl) _ rfl zF19 zeroFr ?_
          have kg39 := Blk.new xq38 51 zF19
          have pe39 := PX.allocE hH38.2 (.cells zF19 51)
          have hxg39 : xb ≤ xq38.heap.size := Nat.le_of_lt hH38.2.lt
          have hc39 : (fun wy => Below xb w wy ∧ PX NoE wy xb S Cm bs br (.slice A way.length c) (sP st su ss) (rP rt' ru' ro' rr') way) (xq38.alloc (.cells zF19 51)) := ⟨hH38.1.alloc (Nat.le_of_lt hH38.2.lt) _, hH38.2.alloc _⟩
          generalize xq38.alloc (.cells zF19 51) = xq39 at hc39 kg39 pe39 ⊢
          generalize xq38.heap.size = gq39 at kg39 pe39 hxg39 ⊢
          refine hK.out _ _ hc39 (fun hH39 => ?_)
          clear hc39
          clear hK KK
          try simp only [zz1, zz2, zz3, Act.put, zz4, zz5, zz6]
          refine rdH [13] ?_
          refine c1H rfl fun KK hK => ?_
          rw [if_pos (by rfl)]
          refine wp_store_mid 51 _ _ rfl gq39 0 D rfl rfl (Blk.there kg39 0 _ (by rw [HDS.out]; exact Nat.le_refl _)) (by rw [HDS.out]; kernel_rfl) HD1.out ?_
          have kg40 : Blk (xq39.setCells gq39 0 (Array.toList D)) gq39 51 D := kg39.setAll (by rw [HDS.out]; rfl)
          have pe40 := pe39.far rfl (Array.toList D) 0
          have hc40 : (fun wy => Below xb w wy ∧ PX NoE wy xb S Cm bs br (.slice A way.length c) (sP st su ss) (rP rt' ru' ro' rr') way) (xq39.setCells gq39 0 (Array.toList D)) := ⟨below_setCells hxg39 _ _ hH39.1, pe40.noE⟩
          generalize xq39.setCells gq39 0 (Array.toList D) = xq40 at hc40 kg40 pe40 ⊢
          refine hK.out _ _ hc40 (fun hH40 => ?_)
          clear hc40
          clear hK KK
          try simp only [zz1, zz2, zz3, Act.put, zz4, zz5, zz6]
          refine tkH 14 rfl (yieldsIf_pure _ (.int .i64 0) rfl (.inr rfl) rfl) hH40 ?_
          try simp only [zz1, zz2, zz3, Act.put, zz4, zz5, zz6]
          refine wpAnyH_done (by kernel_rfl) ?_ _
          have hz := hH40.2
          have hBz := hH40.1
          have kz := kg40
          clear hH40
          go_wp2_with (refine wpList_ldrow (by rfl) 51 _ (by rfl) gq39 (by rfl) 51 D (0, 0) _ kz Try.underlying51 (by rfl) (by rw [HDS.out]; kernel_rfl) ?_)
          refine (PUT.out _ hz).mono ?_
          rintro e wz ⟨rfl, hbz, hGz⟩
          go_wp2_with fail
          refine bodyPost_ret (v := .bool true) (by simp [results, Try.results50, go_sem]) rfl ?_
          exact ⟨rfl, hBz.trans hbz, hGz⟩
        refine AllReadyH.cons rfl (fun KK hK => ?_) ?_
        · rw [if_pos (by rfl)]
          refine wp_alloc_z 51 (by rfl) _ rfl zF19 zeroFr ?_
          have kg41 := Blk.new xq37 51 zF19
          have pe41 := PX.allocE hH.2 (.cells zF19 51)
          have hxg41 : xb ≤ xq37.heap.size := Nat.le_of_lt hH.2.lt
          have hc41 : (fun wy => Below xb w wy ∧ PX NoE wy xb S Cm bs br (.slice A way.length c) (sP st su ss) (rP rt' ru' ro' rr') way) (xq37.alloc (.cells zF19 51)) := ⟨hH.1.alloc (Nat.le_of_lt hH.2.lt) _, hH.2.alloc _⟩
          generalize xq37.alloc (.cells zF19 51) = xq41 at hc41 kg41 pe41 ⊢
          generalize xq37.heap.size = gq41 at kg41 pe41 hxg41 ⊢
          refine hK.out _ _ hc41 (fun hH41 => ?_)
          clear hc41
          clear hK KK
          try simp only [zz1, zz2, zz3, Act.put, zz4, zz5, zz6]
          refine rdH [8] ?_
          refine c1H rfl fun KK hK => ?_
          go_simp
          refine (HEL.out _ _ hH41.2.r.at).mono ?_
          rintro e xq42 ⟨rfl, hb42⟩
          have kg42 := kg41.below hb42
          have pe42 := pe41.below hb42
          refine hK.out _ _ ⟨hH41.1.trans (hb42.mono (Nat.le_of_lt hH41.2.lt)), hH41.2.below hb42⟩ (fun hH42 => ?_)
          clear hK KK
          try simp only [zz1, zz2, zz3, Act.put, zz4, zz5, zz6]
          refine tkH 9 rfl (yieldsIf_pure _ (.tuple #[.agg D, .int .i64 0]) rfl (.inl rfl) rfl) hH42 ?_
          try simp only [zz1, zz2, zz3, Act.put, zz4, zz5, zz6]
          refine tkH 10 rfl (yieldsIf_cell (.agg D) rfl (fun w h => by go_simp)) hH42 ?_
          try simp only [zz1, zz2, zz3, Act.put, zz4, zz5, zz6]
          refine tkH 11 rfl (yieldsIf_cell (.int .i64 0) rfl (fun w h => by go_simp)) hH42 ?_
          try simp only [zz1, zz2, zz3, Act.put, zz4, zz5, zz6]
          refine rdH [13] ?_
          refine c1H rfl fun KK hK => ?_
          rw [if_pos (by rfl)]
          refine wp_store_mid 51 _ _ rfl gq41 0 D rfl rfl (Blk.there kg42 0 _ (by rw [HDS.out]; exact Nat.le_refl _)) (by rw [HDS.out]; kernel_rfl) HD1.out ?_
          have kg43 : Blk (xq42.setCells gq41 0 (Array.toList D)) gq41 51 D := kg42.setAll (by rw [HDS.out]; rfl)
          have pe43 := pe42.far rfl (Array.toList D) 0
          have hc43 : (fun wy => Below xb w wy ∧ PX NoE wy xb S Cm bs br (.slice A way.length c) (sP st su ss) (rP rt' ru' ro' rr') way) (xq42.setCells gq41 0 (Array.toList D)) := ⟨below_setCells hxg41 _ _ hH42.1, pe43.noE⟩
          generalize xq42.setCells gq41 0 (Array.toList D) = xq43 at hc43 kg43 pe43 ⊢
          refine hK.out _ _ hc43 (fun hH43 => ?_)
          clear hc43
          clear hK KK
          try simp only [zz1, zz2, zz3, Act.put, zz4, zz5, zz6]
          refine tkH 14 rfl (yieldsIf_pure _ (.int .i64 0) rfl (.inr rfl) rfl) hH43 ?_
          try simp only [zz1, zz2, zz3, Act.put, zz4, zz5, zz6]
          refine wpAnyH_done (by kernel_rfl) ?_ _
          have hz := hH43.2
          have hBz := hH43.1
          have kz := kg43
          clear hH43
          go_wp2_with (refine wpList_ldrow (by rfl) 51 _ (by rfl) gq41 (by rfl) 51 D (0, 0) _ kz Try.underlying51 (by rfl) (by rw [HDS.out]; kernel_rfl) ?_)
          refine (PUT.out _ hz).mono ?_
          rintro e wz ⟨rfl, hbz, hGz⟩
          go_wp2_with fail
          refine bodyPost_ret (v := .bool true) (by simp [results, Try.results50, go_sem]) rfl ?_
          exact ⟨rfl, hBz.trans hbz, hGz⟩
        exact AllReadyH.nil

end Go.Proofs.Ytfgkkflbpfocjaa

