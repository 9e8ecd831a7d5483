/- Contracts: messages made of numbers, their fragments. -/
import Derived.Test.YtcifngefclgefaaT
import Derived.Test.YtcifngefclgefaaV
namespace Go.Proofs.Ytcifngefclgefaa
open Go.RowKit
set_option linter.unusedVariables false
set_option linter.unusedSimpArgs false

theorem tmod_emod {a n : Int} (hn : 1 ≤ n) : a % n = if a.tmod n < 0 then a.tmod n + n else a.tmod n := by
  have h3 : a.tmod n + n * a.tdiv n = a := Int.tmod_add_mul_tdiv a n
  have b1 : a.tmod n < n := Int.tmod_lt_of_pos _ (by omega)
  have b2 : -n < a.tmod n := by
    have h := Int.lt_tmod_of_pos a (show 0 < n by omega)
    omega
  by_cases h : a.tmod n < 0
  · rw [if_pos h]
    have e : a = (a.tmod n + n) + n * (a.tdiv n - 1) := by rw [Int.mul_sub]; omega
    have e2 : a % n = ((a.tmod n + n) + n * (a.tdiv n - 1)) % n := by rw [← e]
    rw [e2, Int.add_mul_emod_self_left, Int.emod_eq_of_lt (by omega) (by omega)]
  · rw [if_neg h]
    have e2 : a % n = (a.tmod n + n * a.tdiv n) % n := by rw [h3]
    rw [e2, Int.add_mul_emod_self_left, Int.emod_eq_of_lt (by omega) (by omega)]

set_option maxHeartbeats 400000 in
theorem Mod_any (a n : Int) (w : World) (hn : 1 ≤ n) (hn2 : n ≤ 9223372036854775807) :
    Calls Try.prog 31 #[.int .i64 a, .int .i64 n] w fun e w' => e = .returned (.int .i64 (a % n)) ∧ w = w' := by
  have E := Lib.hid (tmod_emod (a := a) hn)
  have b1 : a.tmod n < n := Int.tmod_lt_of_pos _ (by omega)
  have b2 : -n < a.tmod n := by
    have h := Int.lt_tmod_of_pos a (show 0 < n by omega)
    omega
  by_cases h : a.tmod n < 0
  · go_enter Try.func31, Try.ntmps31
    go_wp2
    go_ret
    exact ⟨ret_int (by rw [E.out, if_pos h]), rfl⟩
  · go_enter Try.func31, Try.ntmps31
    go_wp2
    go_ret
    exact ⟨ret_int (by rw [E.out, if_neg (by omega)]), rfl⟩
def one1 (x : Int) : List Value := [.int .i64 x]
theorem one11 (x : Int) : (one1 x).length = 1 := rfl
def IntAt (w : World) (v : Value) (l : List Int) : Prop := SlAt w 1 v l.length (fl one1 l)
/-- the byte of a number -/
def byN (x : Int) : UInt8 := UInt8.ofNat (x % 256).toNat
theorem byN_nat (x : Int) : ((byN x).toNat : Int) = x % 256 := by
  unfold byN
  have h : (x % 256).toNat < 256 := by omega
  rw [UInt8.toNat_ofNat_of_lt' (by simpa using h)]
  omega
def bysN (l : List Int) (k : Nat) : List UInt8 := (l.take k).map byN
theorem bysN_succ {l : List Int} {k : Nat} {x : Int} (h : l[k]? = some x) : bysN l (k + 1) = bysN l k ++ [byN x] := by
  unfold bysN
  rw [List.take_add_one, h, List.map_append]; rfl
theorem bysN_len {l : List Int} {k : Nat} (h : k ≤ l.length) : (bysN l k).length = k := by simp [bysN]; omega
theorem bysN_all (l : List Int) (k : Nat) (h : l.length ≤ k) : bysN l k = bysN l l.length := by
  unfold bysN
  rw [List.take_of_length_le h, List.take_of_length_le (Nat.le_refl _)]
theorem str_nil {w : World} {base c : Nat} {A : Option Addr} (h : OwnU w base (.slice A 0 c) []) : (convert 66 9 (.slice A 0 c)).run Try.prog w = .ok (.string ⟨#[]⟩) w := by
  rw [run_convert_bytes_string w 66 9 5 A 0 c Try.underlying66 Try.underlying5 Try.underlying9]
  cases A <;> rfl
theorem str_all {w : World} {base c : Nat} {A : Option Addr} {L : List UInt8} (h : OwnU w base (.slice A L.length c) L) : (convert 66 9 (.slice A L.length c)).run Try.prog w = .ok (.string ⟨L.toArray⟩) w := by
  by_cases h0 : 0 < L.length
  · exact str_own h h0
  · obtain rfl : L = [] := List.eq_nil_of_length_eq_zero (by omega)
    exact str_nil h
def RetS (s : ByteArray) (w : World) (e : Ending) (w' : World) : Prop := e = .returned (.string s) ∧ Below w.heap.size w w'

set_option maxRecDepth 100000 in
set_option maxHeartbeats 4000000 in
theorem Bytes_any (l : List Int) (v : Value) (w : World) (hV : IntAt w v l) : Calls Try.prog 41 #[v, .int .i64 119] w (RetS ⟨(bysN l 119).toArray⟩ w) := by
  obtain ⟨A, c, rfl, _, hc2, hR⟩ := hV
  have HR := Lib.hid hR
  unfold maxLen at hc2
  clear hR
  go_enter Try.func41, Try.ntmps41
  go_wp2_with fail
  go_loopw [5, 6] (fun s5 s6 wr => ∃ k : Nat, k ≤ l.length ∧ k ≤ 119 ∧ s6 = .int .i64 k ∧ OwnU wr w.heap.size s5 (bysN l k) ∧ Below w.heap.size w wr) (fun _ s6 _ => 119 - (intOf s6).toNat)
  case atStart => exact ⟨0, by omega, by omega, rfl, World.ownsRow_nil _ _ _ _, Below.refl _ _⟩
  case round =>
    obtain ⟨k, hk, hk2, rfl, hO, hB⟩ := hrel
    obtain ⟨Ao, co, rfl⟩ := hO.form
    have HO := Lib.hid hO
    have HBy := Lib.hid hB
    have hcv := str_all hO
    have hsz := hB.size
    clear hO
    by_cases hlt : k < l.length
    · have hki : (k : Int) < l.length := by omega
      by_cases hm : k < 119
      · have hmi : (k : Int) < 119 := by omega
        obtain ⟨x, hx⟩ : ∃ x, l[k]? = some x := ⟨_, List.getElem?_eq_getElem hlt⟩
        obtain ⟨b, o, rfl, hb, hd⟩ := reads_fl one11 HR.out rfl hx
        have d0 := (hB.cell (p := ⟨b, o + k * 1, none⟩) hb).trans (hd 0 _ rfl)
        simp only [Nat.mul_one] at d0
        have HS : Hid (bysN l (k + 1) = bysN l k ++ [byN x]) := Lib.hid (bysN_succ hx)
        have hlk : Hid ((bysN l k).length = k) := Lib.hid (bysN_len hk)
        obtain ⟨y, hy⟩ : ∃ y, byN x = y := ⟨_, rfl⟩
        have hxy : x % 256 = (y.toNat : Int) := by rw [← hy, byN_nat]
        have hy0 : (y.toNat : Int) < 256 := by omega
        have HMOD : Hid (∀ w, Calls Try.prog 31 #[.int .i64 x, .int .i64 256] w fun e w' => e = .returned (.int .i64 (y.toNat : Int)) ∧ w = w') := Lib.hid (fun w => by rw [← hxy]; exact Mod_any x 256 w (by decide) (by decide))
        rw [hy] at HS
        have WB : IntKind.u8.wrap (y.toNat : Int) = (y.toNat : Int) := IntWalk.u8_in _ (by omega)
        obtain ⟨L, hL⟩ : ∃ L, L = bysN l k := ⟨_, rfl⟩
        rw [← hL] at HS hlk HO ⊢
        have l1 : (L.length + 1) * 1 ≤ 140737488355328 := by have := hlk.out; omega
        have l2 : L.length + 1 ≤ maxLen := by have := hlk.out; unfold maxLen; omega
        clear hx hd hB hcv hy hxy hk hL
        go_wp2_with fail
        refine (HMOD.out _).mono ?_
        rintro e w1 ⟨rfl, rfl⟩
        go_wp2_with (at_builtin; refine wpList_app1n (f := oneU) rfl _ _ 66 rfl w.heap.size 5 1 1 infoU rfl (by decide) Try.underlying66 oneU1 oneU_one wr w w.heap.size y L _ (by rfl) (by rfl) HO.out HBy.out (Nat.le_refl _) hsz l1 l2 ?_)
        intro A3 c3 w3 hown3 hB3 hg3 _
        have HO3 := Lib.hid hown3
        have HB3 := Lib.hid hB3
        clear hown3 hg3 hB3
        go_wp2_with fail
        go_roundw
        case rel => exact ⟨k + 1, by omega, by omega, by go_num, (by rw [HS.out]; unfold OwnU; rw [List.length_append, List.length_singleton]; exact HO3.out), HB3.out⟩
        case measure => simp [intOf]; omega
      · have hmi : ¬ (k : Int) < 119 := by omega
        obtain rfl : k = 119 := by omega
        go_wp2_with fail
        go_ret
        exact ⟨rfl, HBy.out⟩
    · have hki : ¬ (k : Int) < l.length := by omega
      obtain rfl : k = l.length := by omega
      have HA := Lib.hid (bysN_all l 119 hk2)
      go_wp2_with fail
      go_ret
      rw [HA.out]
      exact ⟨rfl, HBy.out⟩
/-- the message made of numbers -/
def textOf (l : List Int) : ByteArray := ⟨#[97]⟩ ++ ⟨(bysN l 119).toArray⟩
theorem text_size (l : List Int) : 1 ≤ (textOf l).size ∧ (textOf l).size ≤ 120 := by
  have h : (bysN l 119).length ≤ 119 := by simp [bysN]; omega
  have e : (textOf l).size = 1 + (bysN l 119).length := by
    unfold textOf
    rw [ByteArray.size_append]
    rfl
  omega

set_option maxRecDepth 100000 in
set_option maxHeartbeats 4000000 in
theorem text_any (l : List Int) (v : Value) (w : World) (hV : IntAt w v l) : Calls Try.prog 32 #[v] w (RetS (textOf l) w) := by
  have C := Lib.hid (Bytes_any l v w hV)
  have hbn : ¬ 9223372036854775807 < 1 + (bysN l 119).length := by have : (bysN l 119).length ≤ 119 := by { simp [bysN]; omega }; omega
  obtain ⟨A, c, rfl, _, hc2, hR⟩ := hV
  clear hR
  go_enter Try.func32, Try.ntmps32
  go_wp2_with fail
  refine C.out.mono ?_
  rintro e w1 ⟨rfl, hb1⟩
  go_wp2_with fail
  go_ret
  exact ⟨rfl, hb1⟩
/-- the size of the fragments -/
def szN (x : Int) : Nat := 1 + (x % 40).toNat
theorem szN_b (x : Int) : 1 ≤ szN x ∧ szN x ≤ 40 := by unfold szN; omega
theorem hd_err (l : List Int) (s : Nat) (hs : 1 ≤ s ∧ s ≤ 1000) : bE (frOf hd0 (textOf l) s 0 0) = 0 := by
  have ht := text_size l
  have hz := fr_size (h := hd0) (m := textOf l) (s := s) (i := 0) (by omega)
  refine bE_0 ?_ ?_ (by omega) (by omega) ?_
  · show IdOk 2 5 _
    unfold IdOk
    show 1 ≤ (2 : Int) ∧ (2 : Int) ≤ 16 ∧ 0 ≤ (((0 * s : Nat)) : Int) ∧ (((0 * s : Nat)) : Int) ≤ 19999 ∧ (5 : Int) ≤ 1099511627776
    omega
  · show (1 ≤ (3 : Int) ∧ (3 : Int) ≤ 16) ∧ (0 ≤ (1 : Int) ∧ (1 : Int) ≤ 2) ∧ (0 ≤ (0 : Int) ∧ (0 : Int) ≤ 1099511627776) ∧ (1 ≤ (100 : Int) ∧ (100 : Int) ≤ 1048576) ∧ (1 ≤ ((textOf l).size : Int) ∧ ((textOf l).size : Int) ≤ 20000)
    omega
  · show ¬ ((textOf l).size : Int) < (((0 * s : Nat)) : Int) + _
    rw [hz]; omega
theorem cut_text (l : List Int) (x : Int) : cutOf hd0 (textOf l) (szN x : Int) = (fragsOf hd0 (textOf l) (szN x), 0) := by
  have ht := text_size l
  have hs := szN_b x
  have he := hd_err l (szN x) (by omega)
  unfold cutOf
  rw [if_neg (by omega), if_neg (by omega), if_neg (by show ¬ ((szN x : Int) < 1 ∨ 1000 < (szN x : Int) ∨ (0 : Int) ≠ 0); omega), Int.toNat_natCast, if_neg (by rw [he]; simp)]
def RetBB (L : List Bn) (b : Bool) (w : World) (e : Ending) (w' : World) : Prop := ∃ v, e = .returned (.tuple #[v, .bool b]) ∧ BnAt w' v L ∧ Below w.heap.size w w'

set_option maxRecDepth 100000 in
set_option maxHeartbeats 4000000 in
theorem cut_any (l : List Int) (x : Int) (v : Value) (w : World) (hV : IntAt w v l) : Calls Try.prog 30 #[v, .int .i64 x] w (RetBB (fragsOf hd0 (textOf l) (szN x)) true w) := by
  have HV := Lib.hid hV
  obtain ⟨A, c, rfl, _, hc2, hR⟩ := hV
  clear hR
  obtain ⟨M, hM⟩ : ∃ M, textOf l = M := ⟨_, rfl⟩
  obtain ⟨L, hL⟩ : ∃ L, fragsOf hd0 M (szN x) = L := ⟨_, rfl⟩
  obtain ⟨z, hz⟩ : ∃ z, szN x = z := ⟨_, rfl⟩
  obtain ⟨q, hq⟩ : ∃ q, x % 40 = q := ⟨_, rfl⟩
  have hqz : (1 : Int) + q = z := by rw [← hz, ← hq]; unfold szN; omega
  have hq0 : 0 ≤ q ∧ q < 40 := by omega
  have HM : Hid (∀ w, Calls Try.prog 31 #[.int .i64 x, .int .i64 40] w fun e w' => e = .returned (.int .i64 q) ∧ w = w') := Lib.hid (fun w => by rw [← hq]; exact Mod_any x 40 w (by decide) (by decide))
  have T1 : Hid (∀ w v, IntAt w v l → Calls Try.prog 32 #[v] w (RetS M w)) := Lib.hid (fun w v h => by rw [← hM]; exact text_any l v w h)
  have hcut : cutOf hd0 M (z : Int) = (L, 0) := by rw [← hz, ← hM, cut_text, hM, hL]
  have C1 : Hid (∀ w, Calls Try.prog 11 #[hd0.val, .string M, .int .i64 z] w (RetBs L 0 w)) := Lib.hid (fun w => by have := fCut_any hd0 M z w; rw [hcut] at this; exact this)
  have WZ : IntKind.i64.wrap ((1 : Int) + q) = z := by rw [hqz]; exact IntWalk.i64_in _ (by omega)
  have hLn : (0 : Int) < L.length := by
    have ht := text_size l
    have hs := szN_b x
    rw [← hL, ← hM, frags_len]
    have := frags_n0 (m := textOf l) (s := szN x) (by omega) (by omega)
    omega
  have hLd : decide (0 < L.length) = true := decide_eq_true (by omega)
  rw [hM]
  rw [hL]
  clear hM hL hz hq hcut
  go_enter Try.func30, Try.ntmps30
  go_wp2_with fail
  refine (head_any _).mono ?_
  rintro e w1 ⟨rfl, hb1⟩
  rw [Bn.val_eq]
  dsimp only [hd0]
  have hB1 := hb1
  have V1 := Lib.hid (SlAt.below HV.out hb1)
  clear hb1
  go_wp2_with fail
  refine (T1.out _ _ V1.out).mono ?_
  rintro e w2 ⟨rfl, hb2⟩
  have hB2 := bnext hB1 hb2
  clear hb2 hB1 V1 T1
  go_wp2_with fail
  refine (HM.out _).mono ?_
  rintro e w3 ⟨rfl, rfl⟩
  go_wp2_with fail
  refine (C1.out _).mono ?_
  rintro e w4 ⟨v4, rfl, hv4, hb4⟩
  obtain ⟨A4, c4, rfl, _⟩ := id hv4
  have hB4 := bnext hB2 hb4
  clear hb4 hB2 C1 HM
  go_wp2_with fail
  go_ret2
  exact ⟨_, rfl, hv4, hB4⟩
def RetBBo (L : List Bn) (b : Bool) (w : World) (e : Ending) (w' : World) : Prop := ∃ v, e = .returned (.tuple #[v, .bool b]) ∧ w'.ownsRow w.heap.size 26 9 v L.length (fl Bn.cells L) ∧ Below w.heap.size w w'

set_option maxRecDepth 100000 in
set_option maxHeartbeats 4000000 in
theorem cut_own (l : List Int) (x : Int) (v : Value) (w : World) (hV : IntAt w v l) : Calls Try.prog 30 #[v, .int .i64 x] w (RetBBo (fragsOf hd0 (textOf l) (szN x)) true w) := by
  have HV := Lib.hid hV
  obtain ⟨A, c, rfl, _, hc2, hR⟩ := hV
  clear hR
  obtain ⟨M, hM⟩ : ∃ M, textOf l = M := ⟨_, rfl⟩
  obtain ⟨L, hL⟩ : ∃ L, fragsOf hd0 M (szN x) = L := ⟨_, rfl⟩
  obtain ⟨z, hz⟩ : ∃ z, szN x = z := ⟨_, rfl⟩
  obtain ⟨q, hq⟩ : ∃ q, x % 40 = q := ⟨_, rfl⟩
  have hqz : (1 : Int) + q = z := by rw [← hz, ← hq]; unfold szN; omega
  have hq0 : 0 ≤ q ∧ q < 40 := by omega
  have HM : Hid (∀ w, Calls Try.prog 31 #[.int .i64 x, .int .i64 40] w fun e w' => e = .returned (.int .i64 q) ∧ w = w') := Lib.hid (fun w => by rw [← hq]; exact Mod_any x 40 w (by decide) (by decide))
  have T1 : Hid (∀ w v, IntAt w v l → Calls Try.prog 32 #[v] w (RetS M w)) := Lib.hid (fun w v h => by rw [← hM]; exact text_any l v w h)
  have hcut : cutOf hd0 M (z : Int) = (L, 0) := by rw [← hz, ← hM, cut_text, hM, hL]
  have C1 : Hid (∀ w, Calls Try.prog 11 #[hd0.val, .string M, .int .i64 z] w (RetBo L 0 w)) := Lib.hid (fun w => by have := fCut_ok_own 2 5 3 1 0 100 0 ⟨#[]⟩ M z (by have := szN_b x; omega) (by have := text_size l; rw [hM] at this; omega) (by have := text_size l; rw [hM] at this; omega) w; rw [show (⟨2, 5, 0, 3, 1, 0, 100, 0, ⟨#[]⟩⟩ : Bn) = hd0 from rfl, hcut] at this; exact this)
  have WZ : IntKind.i64.wrap ((1 : Int) + q) = z := by rw [hqz]; exact IntWalk.i64_in _ (by omega)
  have hLn : (0 : Int) < L.length := by
    have ht := text_size l
    have hs := szN_b x
    rw [← hL, ← hM, frags_len]
    have := frags_n0 (m := textOf l) (s := szN x) (by omega) (by omega)
    omega
  have hLd : decide (0 < L.length) = true := decide_eq_true (by omega)
  rw [hM]
  rw [hL]
  clear hM hL hz hq hcut
  go_enter Try.func30, Try.ntmps30
  go_wp2_with fail
  refine (head_any _).mono ?_
  rintro e w1 ⟨rfl, hb1⟩
  rw [Bn.val_eq]
  dsimp only [hd0]
  have hB1 := hb1
  have V1 := Lib.hid (SlAt.below HV.out hb1)
  clear hb1
  go_wp2_with fail
  refine (T1.out _ _ V1.out).mono ?_
  rintro e w2 ⟨rfl, hb2⟩
  have hB2 := bnext hB1 hb2
  clear hb2 hB1 V1 T1
  go_wp2_with fail
  refine (HM.out _).mono ?_
  rintro e w3 ⟨rfl, rfl⟩
  go_wp2_with fail
  refine (C1.out _).mono ?_
  rintro e w4 ⟨v4, rfl, hv4, hb4⟩
  obtain ⟨A4, c4, rfl, _⟩ := SlAt.own hv4
  have hB4 := bnext hB2 hb4
  have hBs := hB2.size
  clear hb4 hB2 C1 HM
  go_wp2_with fail
  go_ret2
  exact ⟨_, rfl, own_mono hv4 hBs, hB4⟩
end Go.Proofs.Ytcifngefclgefaa
