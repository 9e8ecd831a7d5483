/- Contracts: a bundle made of a number. -/
import Derived.Test.YtfgkkflbpfocjaaZc27
import Derived.Test.YtfgkkflbpfocjaaZc18
import Derived.Test.YtfgkkflbpfocjaaZc22
namespace Go.Proofs.Ytfgkkflbpfocjaa
open Go.RowKit
set_option linter.unusedVariables false
set_option linter.unusedSimpArgs false

theorem str_one (w : World) (y : Int) : (convert 126 9 (.slice (some ⟨w.heap.size, 0, none⟩) 1 1)).run Try.prog (w.alloc (.cells #[.int .u8 (y % 256)] 5)) = .ok (.string ⟨#[UInt8.ofNat (y % 256).toNat]⟩) (w.alloc (.cells #[.int .u8 (y % 256)] 5)) := by
  have h : 0 ≤ y % 256 ∧ y % 256 < 256 := by omega
  refine run_convert_bytes_back (P := Try.prog) _ 126 9 5 ⟨w.heap.size, 0, none⟩ 1 [UInt8.ofNat (y % 256).toNat] Try.underlying126 Try.underlying5 Try.underlying9 fun j hj => ?_
  have hj : j < 1 := by simpa using hj
  obtain rfl : j = 0 := by omega
  have e : ((⟨w.heap.size, 0, none⟩ : Addr).add 0) = ⟨w.heap.size, 0, none⟩ := by simp [Addr.add]
  rw [e, newcell]
  have e2 : ((UInt8.ofNat (y % 256).toNat).toNat : Int) = y % 256 := by
    rw [UInt8.toNat_ofNat_of_lt' (by simp; omega)]
    omega
  simp
  try omega
def IdPost (w : World) (e : Ending) (w' : World) : Prop := ∃ n s : Int, (1 ≤ n ∧ n ≤ 4) ∧ (0 ≤ s ∧ s ≤ 49) ∧ e = .returned (.agg #[.int .i64 n, .int .u64 s, .int .i64 0]) ∧ Below w.heap.size w w'
set_option maxRecDepth 100000 in
set_option maxHeartbeats 2000000 in
theorem BundleID_any (a : Int) (w : World) : Calls Try.prog 85 #[.int .i64 a] w (IdPost w) := by
  go_enter Try.func85, Try.ntmps85
  go_wp2_with fail
  refine (Mod_rng _ _ _ (by decide) (by decide)).mono ?_
  rintro e wq ⟨m, ⟨hm0, hm1⟩, rfl, rfl⟩
  obtain ⟨q4, hq4⟩ : ∃ q, m.tmod 4 = q := ⟨_, rfl⟩
  have hq40 : 0 ≤ q4 ∧ q4 < 4 := by rw [← hq4, Int.tmod_eq_emod_of_nonneg hm0]; omega
  obtain ⟨d, hd⟩ : ∃ q, m.tdiv 4 = q := ⟨_, rfl⟩
  have hd0 : 0 ≤ d ∧ d ≤ 268435456 := by rw [← hd, Int.tdiv_eq_ediv_of_nonneg hm0]; omega
  obtain ⟨s, hs⟩ : ∃ q, d.tmod 50 = q := ⟨_, rfl⟩
  have hs0 : 0 ≤ s ∧ s < 50 := by rw [← hs, Int.tmod_eq_emod_of_nonneg hd0.1]; omega
  have k0 := Blk.new w 47 #[.int .i64 0, .int .u64 0, .int .i64 0]
  have hB := bal (Below.refl w.heap.size w) (.cells #[.int .i64 0, .int .u64 0, .int .i64 0] 47)
  generalize w.alloc (.cells #[.int .i64 0, .int .u64 0, .int .i64 0] 47) = w1 at k0 hB ⊢
  obtain ⟨x0, x1, x2⟩ := k0.c3
  obtain ⟨f0, f1, f2⟩ := k0.f3
  have hl := k0.lt
  go_wp2_with fail
  refine bodyPost_ret (v := .agg #[.int .i64 (1 + q4), .int .u64 s, .int .i64 0]) (by simp [results, Try.results85, go_sem, x0, x1, x2, hl]) rfl ?_
  exact ⟨1 + q4, s, by omega, by omega, rfl, (by repeat (first | with_reducible exact Below.refl _ _ | with_reducible refine Below.drew ?_ | with_reducible refine below_drewN ?_ _ | with_reducible refine bal ?_ _ | with_reducible refine bset ?_ (by first | (simp; done) | (simp; omega)) _ | with_reducible refine bnext ?_ (by assumption) | with_reducible assumption))⟩

def BunPost (w : World) (e : Ending) (w' : World) : Prop := ∃ x : Bu.Bn, Bu.bE x = 0 ∧ e = .returned (Bu.Bn.val x) ∧ Below w.heap.size w w'
theorem bunOk {n s d p b l : Int} {S : ByteArray} {k : Nat} (hn : 1 ≤ n ∧ n ≤ 4) (hs : 0 ≤ s ∧ s ≤ 49) (hd : 0 ≤ d ∧ d < 4) (hp : 0 ≤ p ∧ p < 3) (hb : 0 ≤ b ∧ b < 20) (hl : 0 ≤ l ∧ l < 60) (hk : S.size = k) (hk1 : 1 ≤ k) (hk2 : k ≤ 17) : Bu.bE ⟨n, s, 0, 1 + d, p, b, 1 + l, k, S⟩ = 0 := by
  refine Bu.bE_ok ⟨?_, ?_, ?_, ?_⟩
  · show 1 ≤ n ∧ n ≤ 16 ∧ (0 : Int) ≤ 0 ∧ (0 : Int) ≤ 19999 ∧ s ≤ 1099511627776
    omega
  · show (1 ≤ 1 + d ∧ 1 + d ≤ 16) ∧ (0 ≤ p ∧ p ≤ 2) ∧ (0 ≤ b ∧ b ≤ 1099511627776) ∧ (1 ≤ 1 + l ∧ 1 + l ≤ 1048576) ∧ (1 ≤ (k : Int) ∧ (k : Int) ≤ 20000)
    omega
  · show 1 ≤ S.size ∧ S.size ≤ 1000
    omega
  · show (0 : Int) + S.size ≤ k
    omega
set_option maxRecDepth 100000 in
set_option maxHeartbeats 4000000 in
theorem Bundle_any (a : Int) (w : World) : Calls Try.prog 49 #[.int .i64 a] w (BunPost w) := by
  go_enter Try.func49, Try.ntmps49
  go_wp2_with fail
  refine (Mod_rng _ _ _ (by decide) (by decide)).mono ?_
  rintro e wq ⟨m, ⟨hm0, hm1⟩, rfl, rfl⟩
  have k0 := Blk.new w 49 #[.int .i64 0, .int .u64 0, .int .i64 0, .int .i64 0, .int .i64 0, .int .i64 0, .int .i64 0, .int .i64 0, .string ⟨#[]⟩]
  have hB := bal (Below.refl w.heap.size w) (.cells #[.int .i64 0, .int .u64 0, .int .i64 0, .int .i64 0, .int .i64 0, .int .i64 0, .int .i64 0, .int .i64 0, .string ⟨#[]⟩] 49)
  generalize w.alloc (.cells #[.int .i64 0, .int .u64 0, .int .i64 0, .int .i64 0, .int .i64 0, .int .i64 0, .int .i64 0, .int .i64 0, .string ⟨#[]⟩] 49) = w1 at k0 hB ⊢
  obtain ⟨q, hq⟩ : ∃ q, m.tmod 17 = q := ⟨_, rfl⟩
  have hq0 : 0 ≤ q ∧ q < 17 := by rw [← hq, Int.tmod_eq_emod_of_nonneg hm0]; omega
  go_wp2_with fail
  go_loopw [4, 5] (fun s4 s5 wr => ∃ (k : Nat) (S : ByteArray), s5 = .int .i64 k ∧ s4 = .string S ∧ S.size = k ∧ (k : Int) ≤ q + 1 ∧ Blk wr w.heap.size 49 #[.int .i64 0, .int .u64 0, .int .i64 0, .int .i64 0, .int .i64 0, .int .i64 0, .int .i64 0, .int .i64 0, .string ⟨#[]⟩] ∧ Below w.heap.size w wr) (fun _ s _ => 18 - (intOf s).toNat)
  case atStart => exact ⟨0, ⟨#[]⟩, rfl, rfl, rfl, by omega, k0, hB⟩
  case round =>
    clear k0 hB
    obtain ⟨k, S, rfl, rfl, hS, hk, k0, hB⟩ := hrel
    have HS := Lib.hid hS
    have hk0 : (0 : Int) ≤ k := by omega
    by_cases hkq : (k : Int) ≤ q
    · have hcv := str_one wr
      have hkk : (k : Int) ≤ 64 := by omega
      have hk18 : k ≤ 18 := by omega
      go_wp2_with fail
      go_roundw
      case rel => exact ⟨k + 1, S ++ ⟨#[UInt8.ofNat (m / 2 ^ k % 256).toNat]⟩, by go_num, rfl, by rw [ByteArray.size_append, HS.out]; rfl, by omega, k0.alloc _, bal hB _⟩
      case measure => simp [intOf]; omega
    · have hkk : (k : Int) = q + 1 := by omega
      have hk17 : 1 ≤ k ∧ k ≤ 17 := by omega
      go_wp2_with fail
      refine (BundleID_any _ _).mono ?_
      rintro e w2 ⟨n, s, hn, hs, rfl, hb⟩
      replace k0 := k0.below hb
      replace hB := bnext hB hb
      clear hb
      obtain ⟨x, hx⟩ : ∃ y, m.tdiv 200 = y := ⟨_, rfl⟩
      have hx0 : 0 ≤ x ∧ x ≤ 10000000 := by rw [← hx, Int.tdiv_eq_ediv_of_nonneg hm0]; omega
      obtain ⟨dd, hdd⟩ : ∃ y, x.tmod 4 = y := ⟨_, rfl⟩
      have hdd0 : 0 ≤ dd ∧ dd < 4 := by rw [← hdd, Int.tmod_eq_emod_of_nonneg hx0.1]; omega
      obtain ⟨y, hy⟩ : ∃ y, m.tdiv 800 = y := ⟨_, rfl⟩
      have hy0 : 0 ≤ y ∧ y ≤ 10000000 := by rw [← hy, Int.tdiv_eq_ediv_of_nonneg hm0]; omega
      obtain ⟨pp, hpp⟩ : ∃ z, y.tmod 3 = z := ⟨_, rfl⟩
      have hpp0 : 0 ≤ pp ∧ pp < 3 := by rw [← hpp, Int.tmod_eq_emod_of_nonneg hy0.1]; omega
      obtain ⟨z, hz⟩ : ∃ y, m.tdiv 2400 = y := ⟨_, rfl⟩
      have hz0 : 0 ≤ z ∧ z ≤ 10000000 := by rw [← hz, Int.tdiv_eq_ediv_of_nonneg hm0]; omega
      obtain ⟨bb, hbb⟩ : ∃ y, z.tmod 20 = y := ⟨_, rfl⟩
      have hbb0 : 0 ≤ bb ∧ bb < 20 := by rw [← hbb, Int.tmod_eq_emod_of_nonneg hz0.1]; omega
      obtain ⟨v, hv⟩ : ∃ y, m.tdiv 48000 = y := ⟨_, rfl⟩
      have hv0 : 0 ≤ v ∧ v ≤ 10000000 := by rw [← hv, Int.tdiv_eq_ediv_of_nonneg hm0]; omega
      obtain ⟨ll, hll⟩ : ∃ y, v.tmod 60 = y := ⟨_, rfl⟩
      have hll0 : 0 ≤ ll ∧ ll < 60 := by rw [← hll, Int.tmod_eq_emod_of_nonneg hv0.1]; omega
      have HOK := Lib.hid (bunOk (n := n) (s := s) (d := dd) (p := pp) (b := bb) (l := ll) (S := S) hn hs hdd0 hpp0 hbb0 hll0 HS.out hk17.1 hk17.2)
      have hqk : (q + 1 : Int) = (k : Int) := hkk.symm
      have HQ := Lib.hid hqk
      clear hqk
      go_wp2_with (refine wpList_store_mid (by rfl) 49 _ _ (by rfl) w.heap.size 0 #[.int .i64 n, .int .u64 s, .int .i64 0, .int .i64 (1 + dd), .int .i64 pp, .int .i64 bb, .int .i64 (1 + ll), .int .i64 (q + 1), .string S] (by rfl) (by rfl) (by exact Blk.there k0 0 _ (Nat.le_refl 9)) (by kernel_rfl) (by kernel_rfl) ?_)
      refine bodyPost_ret (results_cell_row rfl _ _ w.heap.size 49 #[.int .i64 n, .int .u64 s, .int .i64 0, .int .i64 (1 + dd), .int .i64 pp, .int .i64 bb, .int .i64 (1 + ll), .int .i64 (q + 1), .string S] (0, 0) _ rfl (k0.setAll rfl) Try.underlying49 (by rfl) (by kernel_rfl)) rfl ?_
      refine ⟨_, HOK.out, ?_, below_setCells (Nat.le_refl _) _ 0 hB⟩
      rw [Bu.Bn.val_eq, HQ.out]
end Go.Proofs.Ytfgkkflbpfocjaa

