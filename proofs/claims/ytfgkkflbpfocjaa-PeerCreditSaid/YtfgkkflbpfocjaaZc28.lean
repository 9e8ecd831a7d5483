/- Contract: a receiver's ledger made of numbers. -/
import Derived.Test.YtfgkkflbpfocjaaZc27
namespace Go.Proofs.Ytfgkkflbpfocjaa
open Go.RowKit
set_option linter.unusedVariables false
set_option linter.unusedSimpArgs false

theorem own_two {w : World} {b1 b2 : Nat} {e1 e2 : TypeId} {s1 s2 n1 n2 : Nat} {v1 v2 : Value} {x1 x2 : List Value} (h1 : w.ownsRow b1 e1 s1 v1 n1 x1) (h2 : w.ownsRow b2 e2 s2 v2 n2 x2) (hne : e1 ≠ e2) : v1.ownBlock = none ∨ v1.ownBlock ≠ v2.ownBlock := by
  rcases h1.2 with ⟨rfl, _⟩ | ⟨g, cap, cur, rfl, _, hh, _⟩
  · exact .inl rfl
  · right
    rcases h2.2 with ⟨rfl, _⟩ | ⟨g', cap', cur', rfl, _, hh', _⟩
    · simp [Value.ownBlock]
    · intro e
      have : g = g' := by simpa [Value.ownBlock] using e
      subst this
      rw [hh'] at hh
      injection hh with hh
      injection hh with _ ht
      exact hne ht.symm
theorem rg_lit1 {w : World} {g : Nat} {t : TypeId} {a b : Int} (h : Blk w g t #[.int .u64 a, .int .u64 b]) : SlAt w 2 (.slice (some ⟨g, 0, none⟩) 1 1) [(⟨a, b⟩ : Rg)].length (fl Rg.cells [⟨a, b⟩]) := by
  refine ⟨_, _, rfl, Nat.le_refl _, by unfold maxLen; simp, by rw [fl_len rg2], fun _ => ⟨g, 0, rfl, h.lt, fun j u hj => ?_⟩⟩
  rw [Nat.zero_add, h.cell]
  have e : fl Rg.cells [⟨a, b⟩] = [.int .u64 a, .int .u64 b] := rfl
  rw [e] at hj
  rw [List.getElem?_toArray, hj]

/-- the blocks of the loop -/
def RcK (w wx : World) (g r fl' : Int) (T : List Rg) (K : List Int) (A : Option Addr) (c : Nat) (B : Option Addr) (d : Nat) : Prop :=
  Blk wx w.heap.size 29 #[.int .u64 0, .int .u64 0, .int .u64 0, .slice none 0 0, .slice none 0 0] ∧ Blk wx (w.heap.size + 1) 29 #[.int .u64 g, .int .u64 r, .int .u64 fl', .slice A T.length c, .slice B K.length d] ∧
  wx.ownsRow w.heap.size 74 2 (.slice A T.length c) T.length (fl Rg.cells T) ∧ wx.ownsRow w.heap.size 22 1 (.slice B K.length d) K.length (fl kc K) ∧ Below w.heap.size w wx
section
variable {w wx w5 : World} {g r fl' : Int} {T : List Rg} {K : List Int} {A : Option Addr} {c : Nat} {B : Option Addr} {d : Nat}
theorem RcK.gr (h : RcK w wx g r fl' T K A c B d) (u : Int) : RcK w (wx.setCell ⟨w.heap.size + 1, 0, none⟩ (.int .u64 u)) u r fl' T K A c B d :=
  ⟨h.1.far (by simp) _, by simpa using h.2.1.set 0 (.int .u64 u), ho_far (a := ⟨w.heap.size + 1, 0, none⟩) h.2.2.1 h.2.1 (by decide) _, ho_far (a := ⟨w.heap.size + 1, 0, none⟩) h.2.2.2.1 h.2.1 (by decide) _, bset h.2.2.2.2 (p := ⟨w.heap.size + 1, 0, none⟩) (Nat.le_succ _) _⟩
theorem RcK.fl (h : RcK w wx g r fl' T K A c B d) (u : Int) : RcK w (wx.setCell ⟨w.heap.size + 1, 2, none⟩ (.int .u64 u)) g r u T K A c B d :=
  ⟨h.1.far (by simp) _, by simpa using h.2.1.set 2 (.int .u64 u), ho_far (a := ⟨w.heap.size + 1, 2, none⟩) h.2.2.1 h.2.1 (by decide) _, ho_far (a := ⟨w.heap.size + 1, 2, none⟩) h.2.2.2.1 h.2.1 (by decide) _, bset h.2.2.2.2 (p := ⟨w.heap.size + 1, 2, none⟩) (Nat.le_succ _) _⟩
theorem RcK.tk (h : RcK w wx g r fl' T K A c B d) {o : Obj} {x : Rg} {A' : Option Addr} {c' : Nat} (hg : (wx.alloc o).grownBy w5 (Value.slice A T.length c).ownBlock)
    (hown : w5.ownsRow w.heap.size 74 2 (.slice A' (T.length + 1) c') (T ++ [x]).length (Go.Proofs.Ytfgkkflbpfocjaa.fl Rg.cells (T ++ [x]))) (hB : Below w.heap.size w w5) : RcK w (w5.setCell ⟨w.heap.size + 1, 3, none⟩ (.slice A' (T.length + 1) c')) g r fl' (T ++ [x]) K A' c' B d := by
  obtain ⟨k0, k1, ht, hk, _⟩ := h
  have ht' := World.ownsRow.alloc ht o
  have hk' := World.ownsRow.alloc hk o
  have k0' := (k0.alloc o).grown hg (blk_ne_own ht' (k0.alloc o) (by decide))
  have k1' := (k1.alloc o).grown hg (blk_ne_own ht' (k1.alloc o) (by decide))
  have hk2 := World.ownsRow.kept hk' hg (own_two hk' ht' (by decide))
  have e : (T ++ [x]).length = T.length + 1 := by simp
  have q1 := k1'.set 3 (.slice A' (T.length + 1) c')
  have q2 := ho_far (a := ⟨w.heap.size + 1, 3, none⟩) hown k1' (by decide) (.slice A' (T.length + 1) c')
  refine ⟨k0'.far (by simp) _, ?_, ?_, ho_far (a := ⟨w.heap.size + 1, 3, none⟩) hk2 k1' (by decide) _, bset hB (p := ⟨w.heap.size + 1, 3, none⟩) (Nat.le_succ _) _⟩
  · rw [e]; simpa using q1
  · rw [e] at q2 ⊢; exact q2
theorem RcK.kp (h : RcK w wx g r fl' T K A c B d) {o : Obj} {x : Int} {B' : Option Addr} {d' : Nat} (hg : (wx.alloc o).grownBy w5 (Value.slice B K.length d).ownBlock)
    (hown : w5.ownsRow w.heap.size 22 1 (.slice B' (K.length + 1) d') (K ++ [x]).length (Go.Proofs.Ytfgkkflbpfocjaa.fl kc (K ++ [x]))) (hB : Below w.heap.size w w5) : RcK w (w5.setCell ⟨w.heap.size + 1, 4, none⟩ (.slice B' (K.length + 1) d')) g r fl' T (K ++ [x]) A c B' d' := by
  obtain ⟨k0, k1, ht, hk, _⟩ := h
  have ht' := World.ownsRow.alloc ht o
  have hk' := World.ownsRow.alloc hk o
  have k0' := (k0.alloc o).grown hg (blk_ne_own hk' (k0.alloc o) (by decide))
  have k1' := (k1.alloc o).grown hg (blk_ne_own hk' (k1.alloc o) (by decide))
  have ht2 := World.ownsRow.kept ht' hg (own_two ht' hk' (by decide))
  have e : (K ++ [x]).length = K.length + 1 := by simp
  have q1 := k1'.set 4 (.slice B' (K.length + 1) d')
  have q2 := ho_far (a := ⟨w.heap.size + 1, 4, none⟩) hown k1' (by decide) (.slice B' (K.length + 1) d')
  refine ⟨k0'.far (by simp) _, ?_, ho_far (a := ⟨w.heap.size + 1, 4, none⟩) ht2 k1' (by decide) _, ?_, bset hB (p := ⟨w.heap.size + 1, 4, none⟩) (Nat.le_succ _) _⟩
  · rw [e]; simpa using q1
  · rw [e] at q2 ⊢; exact q2
end

end Go.Proofs.Ytfgkkflbpfocjaa

