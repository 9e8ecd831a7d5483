/- Channels in one goroutine: a send with room, a receive from a buffer, as pieces of the ordinary walk. -/
import Derived.Test.YthkfdfkjenhjmaaOnly
import Derived.Conc.LoneCalls
import Derived.Conc.LoneSelectN
namespace Go.Proofs.Ythkfdfkjenhjmaa
open Go.RowKit Go.Conc
set_option linter.unusedVariables false
set_option linter.unusedSimpArgs false

/-- what an operation yields -/
def OpV (r : Result Next) (K : Value → World → Prop) : Prop := match r with
  | .ok (.value v) w => K v w
  | .ok .skip w => K undef w
  | _ => False
@[simp] theorem opV_value (v : Value) (w : World) (K : Value → World → Prop) : OpV (.ok (.value v) w) K = K v w := rfl
@[simp] theorem opV_skip (w : World) (K : Value → World → Prop) : OpV (.ok .skip w) K = K undef w := rfl

/-- the operations of a region, up to a place -/
def OpsTo (P : Program) (ops : Array Oper) (l : List Nat) (a : Act) (w : World) (l' : List Nat) (a' : Act) (w' : World) : Prop :=
  ∀ (b : Frame) (k : List Item) (cs : List Frame), Steps P (lone (b.at a (.inRegion ops l :: k)) cs w) (lone (b.at a' (.inRegion ops l' :: k)) cs w')
section
variable {P : Program} {ops : Array Oper} {l l' rest : List Nat} {a a' : Act} {w w' w1 : World} {i : Nat} {o : Oper} {v : Value}
theorem OpsTo.refl : OpsTo P ops l a w l a w := fun _ _ _ => Steps.refl _ _
theorem opsTo_op (v : Value) (w1 : World) (ho : ops[i]? = some o) (hw : Region.wanted o (yielded ops a.tmps) = true) (h : ∀ K : Value → World → Prop, K v w1 → OpV ((execOp a.eval o).run P w) K)
    (hr : OpsTo P ops rest (a.put o.dst v) w1 l' a' w') : OpsTo P ops (i :: rest) a w l' a' w' := by
  intro b k cs
  have h1 := h (fun v' w' => v' = v ∧ w' = w1) ⟨rfl, rfl⟩
  have hg := stepG_op (P := P) (b := b) (k := k) (cs := cs) (w := w) (rest := rest) ho hw
  have hf : ∀ x, (b.at a (.inRegion ops (i :: rest) :: k)).finish x = b.at (a.put o.dst x) (.inRegion ops rest :: k) := by
    intro x; rw [Frame.finish_at, ho]; rfl
  refine Steps.head (step_lone_go ?_) (hr b k cs)
  rw [hg]
  unfold OpV at h1
  split at h1
  · rename_i x y hrun
    obtain ⟨rfl, rfl⟩ := h1
    simp [stepG.apply, hrun, hf]
  · rename_i y hrun
    obtain ⟨rfl, rfl⟩ := h1
    simp [stepG.apply, hrun, hf]
  · exact h1.elim
theorem comm_step {b : Frame} {k : List Item} {cs : List Frame} {cases : Array CommCase} {blocking : Bool} {shape : CommShape} (ho : ops[i]? = some o) (hw : Region.wanted o (yielded ops a.tmps) = true)
    (hr : (execOp a.eval o).run P w = .ok (.comm cases blocking shape) w') :
    ∃ es, stepG P true (G (b.at a (.inRegion ops (i :: rest) :: k)) cs) w = .comm (G (b.at a (.inRegion ops (i :: rest) :: k)) cs) cases blocking shape w' es := by
  rw [stepG_oper ho hw]
  simp only [stepG.apply, Sem.runT_eq, hr, G, GStep.after]
  exact ⟨_, rfl⟩
theorem opsTo_send {c cap s r : Nat} {buf : Array Value} {tm : Bool} {z : Value} (ho : ops[i]? = some o) (hw : Region.wanted o (yielded ops a.tmps) = true)
    (hr : (execOp a.eval o).run P w = .ok (.comm #[scase c v z] true .send) w) (hc : w.heap[c]? = some (.chan cap buf false s r tm)) (hroom : buf.size < cap)
    (h : OpsTo P ops rest (a.put o.dst undef) (w.setChan c cap (buf.push v) false (s + 1) r tm) l' a' w') : OpsTo P ops (i :: rest) a w l' a' w' := by
  intro b k cs
  obtain ⟨es, he⟩ := comm_step (P := P) (b := b) (k := k) (cs := cs) (rest := rest) ho hw hr
  have hs := step_lone_send_room he hc hroom
  have hf : (b.at a (.inRegion ops (i :: rest) :: k)).finish undef = b.at (a.put o.dst undef) (.inRegion ops rest :: k) := by rw [Frame.finish_at, ho]; rfl
  rw [hf] at hs
  exact Steps.head hs (h b k cs)
theorem opsTo_recv {c cap s r : Nat} {buf : Array Value} {tm closed : Bool} {z : Value} (ho : ops[i]? = some o) (hw : Region.wanted o (yielded ops a.tmps) = true)
    (hr : (execOp a.eval o).run P w = .ok (.comm #[rcase c z] true (.recv false)) w) (hc : w.heap[c]? = some (.chan cap buf closed s r tm)) (hsome : 0 < buf.size)
    (h : OpsTo P ops rest (a.put o.dst (buf.getD 0 undef)) (w.setChan c cap (buf.extract 1 buf.size) closed s (r + 1) tm) l' a' w') : OpsTo P ops (i :: rest) a w l' a' w' := by
  intro b k cs
  obtain ⟨es, he⟩ := comm_step (P := P) (b := b) (k := k) (cs := cs) (rest := rest) ho hw hr
  have hs := step_lone_recv_buf false he hc hsome
  have hf : (b.at a (.inRegion ops (i :: rest) :: k)).finish (got false (buf.getD 0 undef) true) = b.at (a.put o.dst (buf.getD 0 undef)) (.inRegion ops rest :: k) := by rw [Frame.finish_at, ho]; rfl
  rw [hf] at hs
  exact Steps.head hs (h b k cs)
theorem wp_region_to {id : Nat} {Q : Exit → Act → World → Prop} (l' : List Nat) (a' : Act) (w' : World) (h : OpsTo P ops (List.range ops.size) a w l' a' w') (ht : wpOps P ops Q l' a' w') : (Code.region id ops false).wp P Q a w := by
  intro b k cs
  obtain ⟨e, a2, w2, hq, harr⟩ := wp_ops l' a' w' ht b k cs
  exact ⟨e, a2, w2, hq, .of_steps (.head step_region (h b k cs)) harr⟩
theorem wp_region_drop {id : Nat} {Q : Exit → Act → World → Prop} (k : Nat) (a' : Act) (w' : World) (hk : k ≤ ops.size) (h : OpsTo P ops (List.range ops.size) a w (List.range' k (ops.size - k)) a' w') (ht : wpList P ops Q (ops.toList.drop k) a' w') : (Code.region id ops false).wp P Q a w := by
  refine wp_region_to _ a' w' h ?_
  have e : ops.size - k = (ops.toList.drop k).length := by simp
  rw [e, wpOps_eq_wpList (ops.toList.drop k) k (fun j => by rw [List.getElem?_drop]; simp)]
  exact ht
theorem heap_far {g : Nat} {ob : Obj} (h : w.heap[g]? = some ob) {p : Addr} (hp : g ≠ p.block) (u : Value) : (w.setCell p u).heap[g]? = some ob := (Below.heap_setCell w p u g hp).trans h
end
section
variable {w : World} {c cap s r : Nat} {buf : Array Value} {cl tm : Bool}
theorem chan_new (w : World) (n : Nat) : (w.alloc (.chan n #[] false 0 0 false)).heap[w.heap.size]? = some (.chan n #[] false 0 0 false) := World.alloc_heap_new w _
theorem only_setChan {S : Nat → Prop} {w0 : World} (h : Only S w0 w) (hc : S c ∨ w0.heap.size ≤ c) (cap : Nat) (buf : Array Value) (cl : Bool) (s r : Nat) (tm : Bool) : Only S w0 (w.setChan c cap buf cl s r tm) := by
  refine ⟨h.os, h.tape, h.output, by simp [World.setChan]; exact h.size, fun k hk hs => ?_⟩
  rw [← h.block k hk hs]
  simp only [World.setChan]
  rw [Array.getElem?_setIfInBounds_ne]
  rintro rfl
  rcases hc with hc | hc
  · exact hs hc
  · omega
theorem heap_setChan_ne {g : Nat} (hg : g ≠ c) (cap : Nat) (buf : Array Value) (cl : Bool) (s r : Nat) (tm : Bool) : (w.setChan c cap buf cl s r tm).heap[g]? = w.heap[g]? := by
  simp only [World.setChan]
  rw [Array.getElem?_setIfInBounds_ne (fun e => hg e.symm)]
theorem Blk.setChan {g : Nat} {t : TypeId} {cs : Array Value} (h : Blk w g t cs) (hg : g ≠ c) (cap : Nat) (buf : Array Value) (cl : Bool) (s r : Nat) (tm : Bool) : Blk (w.setChan c cap buf cl s r tm) g t cs := (heap_setChan_ne hg cap buf cl s r tm).trans h
theorem heap_setChan_eq (h : c < w.heap.size) (cap : Nat) (buf : Array Value) (cl : Bool) (s r : Nat) (tm : Bool) : (w.setChan c cap buf cl s r tm).heap[c]? = some (.chan cap buf cl s r tm) := heap_setChan w c cap buf cl s r tm h
end
end Go.Proofs.Ythkfdfkjenhjmaa
