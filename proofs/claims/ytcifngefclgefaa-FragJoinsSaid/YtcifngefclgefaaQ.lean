/- Contracts: the law's examples. -/
import Derived.Test.YtcifngefclgefaaP
namespace Go.Proofs.Ytcifngefclgefaa
open Go.RowKit
set_option linter.unusedVariables false
set_option linter.unusedSimpArgs false

def hd0 : Bn := ⟨2, 5, 0, 3, 1, 0, 100, 0, ⟨#[]⟩⟩
def pc (io : Int) (s : ByteArray) : Bn := ⟨2, 5, io, 3, 1, 0, 100, 7, s⟩
def HX : Array Value := #[.int .i64 2, .int .u64 5, .int .i64 0, .int .i64 3, .int .i64 1, .int .i64 0, .int .i64 100, .int .i64 0, .string ⟨#[]⟩]

set_option maxRecDepth 100000 in
set_option maxHeartbeats 2000000 in
theorem head_any (w : World) : Calls Try.prog 27 #[] w (RetBn hd0 w) := by
  go_enter Try.func27, Try.ntmps27
  go_wp2_with fail
  have k := Blk.new w 26 #[.int .i64 2, .int .u64 5, .int .i64 0, .int .i64 3, .int .i64 1, .int .i64 0, .int .i64 100, .int .i64 0, .string ⟨#[]⟩]
  obtain ⟨y0, y1, y2, y3, y4, y5, y6, y7, y8⟩ := k.c9
  have hl2 := k.lt
  refine bodyPost_ret (v := hd0.val) (by simp [results, Try.results27, go_sem, y0, y1, y2, y3, y4, y5, y6, y7, y8, hl2, Bn.val, Bn.cells, hd0]) rfl ?_
  exact ⟨rfl, (by repeat (first | with_reducible exact Below.refl _ _ | with_reducible refine Below.drew ?_ | with_reducible refine below_drewN ?_ _ | with_reducible refine bal ?_ _ | with_reducible refine bset ?_ (by first | (simp; done) | (simp; omega)) _ | with_reducible refine bnext ?_ (by assumption) | with_reducible assumption))⟩

set_option maxRecDepth 100000 in
set_option maxHeartbeats 2000000 in
theorem piece_any (io : Int) (s : ByteArray) (w : World) : Calls Try.prog 28 #[.int .i64 io, .string s] w (RetBn (pc io s) w) := by
  go_enter Try.func28, Try.ntmps28
  go_wp2_with fail
  refine (head_any _).mono ?_
  rintro e w1 ⟨rfl, hb1⟩
  rw [Bn.val_eq]
  dsimp only [hd0]
  have k1 := (Blk.new w 26 #[.int .i64 0, .int .u64 0, .int .i64 0, .int .i64 0, .int .i64 0, .int .i64 0, .int .i64 0, .int .i64 0, .string ⟨#[]⟩]).below hb1
  have hB1 := bnext (bal (Below.refl w.heap.size w) (.cells #[.int .i64 0, .int .u64 0, .int .i64 0, .int .i64 0, .int .i64 0, .int .i64 0, .int .i64 0, .int .i64 0, .string ⟨#[]⟩] 26)) hb1
  obtain ⟨y0, y1, y2, y3, y4, y5, y6, y7, y8⟩ := k1.c9
  obtain ⟨z0, z1, z2, z3, z4, z5, z6, z7, z8⟩ := k1.f9
  have hl := k1.lt
  clear hb1
  go_wp2_with fail
  refine bodyPost_ret (v := (pc io s).val) (by simp [results, Try.results28, go_sem, y0, y1, y2, y3, y4, y5, y6, y7, y8, hl, Bn.val, Bn.cells, pc]) rfl ?_
  exact ⟨rfl, (by repeat (first | with_reducible exact Below.refl _ _ | with_reducible refine Below.drew ?_ | with_reducible refine below_drewN ?_ _ | with_reducible refine bal ?_ _ | with_reducible refine bset ?_ (by first | (simp; done) | (simp; omega)) _ | with_reducible refine bnext ?_ (by assumption) | with_reducible assumption))⟩
/-- a literal list of bundles -/
theorem bn_lit {w : World} {g : Nat} {t : TypeId} {L : List Bn} (h : Blk w g t (fl Bn.cells L).toArray) (n : Nat) (hn : n = L.length) (hm : n ≤ 1000) : BnAt w (.slice (some ⟨g, 0, none⟩) n n) L := by
  subst hn
  refine ⟨_, _, rfl, Nat.le_refl _, by unfold maxLen; omega, by rw [fl_len bn9], fun _ => ⟨g, 0, rfl, h.lt, fun j u hj => ?_⟩⟩
  rw [Nat.zero_add, h.cell, List.getElem?_toArray, hj]
theorem rg_lit {w : World} {g : Nat} {t : TypeId} {L : List Rg} (h : Blk w g t (fl Rg.cells L).toArray) (n : Nat) (hn : n = L.length) (hm : n ≤ 1000) : RgAt w (.slice (some ⟨g, 0, none⟩) n n) L := by
  subst hn
  refine ⟨_, _, rfl, Nat.le_refl _, by unfold maxLen; omega, by rw [fl_len rg2], fun _ => ⟨g, 0, rfl, h.lt, fun j u hj => ?_⟩⟩
  rw [Nat.zero_add, h.cell, List.getElem?_toArray, hj]
def sABC : ByteArray := ⟨#[97, 98, 99]⟩
def sDEF : ByteArray := ⟨#[100, 101, 102]⟩
def sG : ByteArray := ⟨#[103]⟩
def sAll : ByteArray := ⟨#[97, 98, 99, 100, 101, 102, 103]⟩
def l3 : List Bn := [pc 0 sABC, pc 3 sDEF, pc 6 sG]
def RetBs1 (L : List Bn) (w : World) (e : Ending) (w' : World) : Prop := ∃ v, e = .returned v ∧ BnAt w' v L ∧ Below w.heap.size w w'

set_option maxRecDepth 100000 in
set_option maxHeartbeats 2000000 in
theorem three_any (w : World) : Calls Try.prog 29 #[] w (RetBs1 l3 w) := by
  go_enter Try.func29, Try.ntmps29
  go_wp2_with fail
  refine (piece_any 0 sABC _).mono ?_
  rintro e w1 ⟨rfl, hb1⟩
  rw [Bn.val_eq]
  dsimp only [pc]
  go_wp2_with fail
  refine (piece_any 3 sDEF _).mono ?_
  rintro e w2 ⟨rfl, hb2⟩
  rw [Bn.val_eq]
  dsimp only [pc]
  go_wp2_with fail
  refine (piece_any 6 sG _).mono ?_
  rintro e w3 ⟨rfl, hb3⟩
  rw [Bn.val_eq]
  dsimp only [pc]
  have hB3 := bnext (bnext (bnext (Below.refl w.heap.size w) hb1) hb2) hb3
  go_wp2_with fail
  go_ret
  exact ⟨_, rfl, bn_lit (L := l3) (Blk.new _ _ _) 3 rfl (by decide), bal hB3 _⟩

set_option maxRecDepth 100000 in
set_option maxHeartbeats 2000000 in
theorem SameRanges_eq (l : List Rg) (v u : Value) (w : World) (hV : RgAt w v l) (hU : RgAt w u l) :
    Calls Try.prog 20 #[v, u] w (RetB true w) := by
  obtain ⟨A, c, rfl, _, hc2, hR⟩ := hV
  obtain ⟨A', c', rfl, _, _, hR'⟩ := hU
  unfold maxLen at hc2
  have HR := Lib.hid hR
  have HR' := Lib.hid hR'
  clear hR hR'
  have t1 : ((l.length : Int) != l.length) = false := by simp
  go_enter Try.func20, Try.ntmps20
  go_wp2_with fail
  go_loopw [5] (fun a wr => ∃ k : Nat, k ≤ l.length ∧ a = .int .i64 k ∧ Below w.heap.size w wr) (fun a _ => l.length - (intOf a).toNat)
  case atStart => exact ⟨0, by omega, rfl, Below.refl _ _⟩
  case round =>
    obtain ⟨k, hk, rfl, hB⟩ := hrel
    by_cases hlt : k < l.length
    · obtain ⟨x, hx⟩ : ∃ x, l[k]? = some x := ⟨_, List.getElem?_eq_getElem hlt⟩
      obtain ⟨b, o, rfl, hb, hd⟩ := reads_fl rg2 (HR.out.keep hB.size fun b o h => hB.cell (p := ⟨b, o, none⟩) h) rfl hx
      obtain ⟨b', o', rfl, hb', hf⟩ := reads_fl rg2 (HR'.out.keep hB.size fun b o h => hB.cell (p := ⟨b, o, none⟩) h) rfl hx
      have d0 : wr.cell? ⟨b, o + k * 2, none⟩ = some (.int .u64 (x.f : Int)) := hd 0 _ rfl
      have d1 : wr.cell? ⟨b, o + k * 2 + 1, none⟩ = some (.int .u64 (x.t : Int)) := hd 1 _ rfl
      have f0 : wr.cell? ⟨b', o' + k * 2, none⟩ = some (.int .u64 (x.f : Int)) := hf 0 _ rfl
      have f1 : wr.cell? ⟨b', o' + k * 2 + 1, none⟩ = some (.int .u64 (x.t : Int)) := hf 1 _ rfl
      have hi : (k : Int) < l.length := by omega
      clear hx hd hf
      go_wp2_with fail
      go_quiet (fail)
      go_wp2_with fail
      go_roundw
      case rel => exact ⟨k + 1, by omega, by go_num, (by repeat (first | with_reducible exact Below.refl _ _ | with_reducible refine Below.drew ?_ | with_reducible refine below_drewN ?_ _ | with_reducible refine bal ?_ _ | with_reducible refine bset ?_ (by first | (simp; done) | (simp; omega)) _ | with_reducible refine bnext ?_ (by assumption) | with_reducible assumption))⟩
      case measure => simp [intOf]; omega
    · obtain rfl : k = l.length := by omega
      go_wp2_with fail
      go_ret
      exact ⟨rfl, hB⟩

/-! the chapter's examples -/
def errS (l : List Bn) (k : Nat) : Int := if bE (bnAt l k) ≠ 0 then bE (bnAt l k) else if fits (lays l k) (bnAt l k).o (bnAt l k).data = false then 12 else 0
theorem laidE_same {l : List Bn} (h0 : ¬ l.length = 0) (hk : ∀ k, k < l.length → (bnAt l k).kd = (bnAt l 0).kd) : laidE l = fstE (errS l) l.length 0 := by
  rw [laidE_cons h0]
  refine fstE_congr fun k _ hl => ?_
  unfold errL errS
  rw [hk k (by omega), Bn.eqB_self]
  simp
theorem ex_cut : cutOf hd0 sAll 3 = (l3, 0) := by kernel_rfl
theorem ex_laid1 : laidE [pc 3 sDEF, pc 6 sG, pc 0 sABC] = (0, 0) := by
  rw [laidE_same (by decide) (fun k hk => by match k, hk with | 0, _ => rfl | 1, _ => rfl | 2, _ => rfl)]
  decide +kernel
theorem ex_laid2 : laidE [pc 3 sDEF, pc 0 sABC] = (0, 0) := by
  rw [laidE_same (by decide) (fun k hk => by match k, hk with | 0, _ => rfl | 1, _ => rfl)]
  decide +kernel
theorem ex_join : joinOf [pc 3 sDEF, pc 6 sG, pc 0 sABC] = (sAll, 0) := by
  unfold joinOf
  rw [ex_laid1]
  decide +kernel
theorem ex_miss : rgsOf [pc 3 sDEF, pc 0 sABC] false = ([⟨6, 7⟩], 0) := by
  unfold rgsOf
  rw [ex_laid2]
  decide +kernel
theorem ex_part : partOf (pc 3 sDEF) 4 6 = (pc 4 ⟨#[101, 102]⟩, 0) := by kernel_rfl
end Go.Proofs.Ytcifngefclgefaa
