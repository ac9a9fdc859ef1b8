/-
  The memory of the reference's search: pairs met, words, the table. No program in sight. Conditions: those in each statement.
-/
import Derived.Test.YtpknkaidmefenaaFstLaw
set_option linter.unusedVariables false
set_option linter.unusedSimpArgs false
set_option maxRecDepth 100000
set_option maxHeartbeats 1000000
namespace Go.Proofs.Ytpknkaidmefenaa
open Go.RowKit

/-- Pairs in M1, words in M2, the rows of the table in the blocks gs; W0: the world ahead of the search. -/
structure FMem (W0 : World) (B0 : Nat) (tP tS tB : TypeId) (gs : List Nat) (m : Nat) (wr : World) (M1 : Option Addr) (k1 m1 : Nat) (P : List (Int × Int)) (M2 : Option Addr) (k2 m2 : Nat) (Q : List Wd) (S : List (Nat × Nat)) : Prop where
  one : Acc wr B0 tP M1 k1 m1 P []
  two : Acc wr B0 tS M2 k2 m2 Q []
  dif : Dif M1 M2
  off1 : Off M1 gs
  off2 : Off M2 gs
  new1 : ∀ a, M1 = some a → a.block = B0 ∨ W0.heap.size ≤ a.block
  new2 : ∀ a, M2 = some a → a.block = B0 + 1 ∨ W0.heap.size ≤ a.block
  seen : Seen wr tB gs m S
  low : ∀ g ∈ gs, B0 + 2 ≤ g ∧ g < W0.heap.size
  nodup : gs.Nodup
  only : OnlyB (B0 :: (B0 + 1) :: gs) W0 wr
section
variable {W0 wr w' : World} {B0 : Nat} {tP tS tB : TypeId} {gs : List Nat} {m : Nat} {M1 M2 D : Option Addr} {k1 m1 k2 m2 d : Nat} {P P' : List (Int × Int)} {Q Q' : List Wd} {S : List (Nat × Nat)}
theorem FMem.drewN (h : FMem W0 B0 tP tS tB gs m wr M1 k1 m1 P M2 k2 m2 Q S) (n : Nat) : FMem W0 B0 tP tS tB gs m (wr.drewN n) M1 k1 m1 P M2 k2 m2 Q S :=
  ⟨h.one.drewN n, h.two.drewN n, h.dif, h.off1, h.off2, h.new1, h.new2, h.seen.keep fun _ _ => rfl, h.low, h.nodup, h.only.drewN n⟩
theorem FMem.drew (h : FMem W0 B0 tP tS tB gs m wr M1 k1 m1 P M2 k2 m2 Q S) : FMem W0 B0 tP tS tB gs m wr.drew M1 k1 m1 P M2 k2 m2 Q S :=
  ⟨h.one.drew, h.two.drew, h.dif, h.off1, h.off2, h.new1, h.new2, h.seen.keep fun _ _ => rfl, h.low, h.nodup, h.only.drew⟩
theorem FMem.size (h : FMem W0 B0 tP tS tB gs m wr M1 k1 m1 P M2 k2 m2 Q S) : W0.heap.size ≤ wr.heap.size := h.only.size
theorem FMem.alloc (h : FMem W0 B0 tP tS tB gs m wr M1 k1 m1 P M2 k2 m2 Q S) (o : Obj) : FMem W0 B0 tP tS tB gs m (wr.alloc o) M1 k1 m1 P M2 k2 m2 Q S :=
  ⟨h.one.alloc o, h.two.alloc o, h.dif, h.off1, h.off2, h.new1, h.new2, h.seen.keep fun g hg => Below.heap_alloc wr o g (Nat.lt_of_lt_of_le (h.low g hg).2 h.size), h.low, h.nodup, h.only.alloc o⟩
/-- A store into a block that was not there ahead of the search. -/
theorem FMem.setNew (h : FMem W0 B0 tP tS tB gs m wr M1 k1 m1 P M2 k2 m2 Q S) {p : Addr} (h1 : ∀ a, M1 = some a → a.block ≠ p.block) (h2 : ∀ a, M2 = some a → a.block ≠ p.block) (hp : W0.heap.size ≤ p.block) (u : Value) : FMem W0 B0 tP tS tB gs m (wr.setCell p u) M1 k1 m1 P M2 k2 m2 Q S :=
  ⟨h.one.setCell h1 (by simp) u, h.two.setCell h2 (by simp) u, h.dif, h.off1, h.off2, h.new1, h.new2, h.seen.keep fun g hg => Below.heap_setCell _ _ _ _ (fun e => by have := (h.low g hg).2; omega), h.low, h.nodup,
    ⟨h.only.os, h.only.tape, h.only.output, Nat.le_trans h.only.size (by simp [World.setCell]), fun g hg hn => (Below.heap_setCell _ _ _ _ (fun e => by omega)).trans (h.only.block g hg hn)⟩⟩
theorem FMem.put (h : FMem W0 B0 tP tS tB gs m wr M1 k1 m1 P M2 k2 m2 Q S) {s g : Nat} (hg : gs[s]? = some g) (k : Nat) : FMem W0 B0 tP tS tB gs m (wr.setCell ⟨g, k, none⟩ (.bool true)) M1 k1 m1 P M2 k2 m2 Q (S ++ [(s, k)]) := by
  have hm := List.mem_of_getElem? hg
  exact ⟨h.one.setCell (fun a ha e => h.off1 a ha (by rw [e]; exact hm)) (by simp) _, h.two.setCell (fun a ha e => h.off2 a ha (by rw [e]; exact hm)) (by simp) _, h.dif, h.off1, h.off2, h.new1, h.new2, h.seen.put h.nodup hg k, h.low, h.nodup, h.only.setCell (by simp [hm]) _⟩
theorem FMem.push1 (h : FMem W0 B0 tP tS tB gs m wr M1 k1 m1 P M2 k2 m2 Q S) {k' : Nat} (hacc : Acc w' B0 tP D k' d P' []) (hgr : wr.grownBy w' (M1.map (·.block))) (hnew : ∀ a, D = some a → M1 = some a ∨ wr.heap.size ≤ a.block) : FMem W0 B0 tP tS tB gs m w' D k' d P' M2 k2 m2 Q S :=
  ⟨hacc, h.two.other hgr h.dif (fun _ _ hm => by simp at hm), h.dif.grow (fun a ha => (h.two.lt a ha).2) hnew, h.off1.grow (fun g hg => Nat.lt_of_lt_of_le (h.low g hg).2 h.size) hnew, h.off2,
    fun a ha => (hnew a ha).elim (h.new1 a) (fun h1 => .inr (Nat.le_trans h.size h1)), h.new2, h.seen.grown hgr h.off1, h.low, h.nodup, h.only.grew hgr fun a ha => (h.new1 a ha).imp_left (fun e => by simp [e])⟩
theorem FMem.push2 (h : FMem W0 B0 tP tS tB gs m wr M1 k1 m1 P M2 k2 m2 Q S) {k' : Nat} (hacc : Acc w' B0 tS D k' d Q' []) (hgr : wr.grownBy w' (M2.map (·.block))) (hnew : ∀ a, D = some a → M2 = some a ∨ wr.heap.size ≤ a.block) : FMem W0 B0 tP tS tB gs m w' M1 k1 m1 P D k' d Q' S :=
  ⟨h.one.other hgr h.dif.symm (fun _ _ hm => by simp at hm), hacc, (h.dif.symm.grow (fun a ha => (h.one.lt a ha).2) hnew).symm, h.off1, h.off2.grow (fun g hg => Nat.lt_of_lt_of_le (h.low g hg).2 h.size) hnew, h.new1,
    fun a ha => (hnew a ha).elim (h.new2 a) (fun h1 => .inr (Nat.le_trans h.size h1)), h.seen.grown hgr h.off2, h.low, h.nodup, h.only.grew hgr fun a ha => (h.new2 a ha).imp_left (fun e => by simp [e])⟩
/-- What lay below the search's own blocks. -/
theorem FMem.below (h : FMem W0 B0 tP tS tB gs m wr M1 k1 m1 P M2 k2 m2 Q S) (hB : B0 ≤ W0.heap.size) : Below B0 W0 wr :=
  h.only.below (fun g hg => by
    rcases List.mem_cons.1 hg with rfl | hg
    · exact Nat.le_refl _
    · rcases List.mem_cons.1 hg with rfl | hg
      · omega
      · have := (h.low g hg).1; omega) hB
theorem FMem.head (h : FMem W0 B0 tP tS tB gs m wr M1 k1 m1 P M2 k2 m2 Q S) {G : Nat} (hG : B0 + 2 ≤ G) (hl : G < W0.heap.size) (ho : G ∉ gs) : wr.heap[G]? = W0.heap[G]? :=
  h.only.block G hl fun hm => by
    rcases List.mem_cons.1 hm with e | hm
    · omega
    · rcases List.mem_cons.1 hm with e | hm
      · omega
      · exact ho hm
end
end Go.Proofs.Ytpknkaidmefenaa
