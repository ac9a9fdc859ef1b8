/-
  Two accumulators, one of leaves and one of anything, on different blocks. No program in sight. Conditions: those in each statement.
-/
import Derived.Test.YtpknkaidmefenaaAcc
set_option linter.unusedVariables false
set_option linter.unusedSimpArgs false
set_option maxRecDepth 100000
set_option maxHeartbeats 1000000
namespace Go.Proofs.Ytpknkaidmefenaa
open Go.RowKit

structure AccN {α β : Type} [Cod α] [Cod β] (w : World) (B : Nat) (e e' : TypeId) (A : Option Addr) (n c : Nat) (xs : List α) (A' : Option Addr) (n' c' : Nat) (ys : List β) (bs : List Nat) : Prop where
  one : Acc w B e A n c xs []
  two : Acc w B e' A' n' c' ys bs
  dis : ∀ a a', A = some a → A' = some a' → a.block ≠ a'.block
  out : ∀ a, A = some a → a.block ∉ bs
section
variable {α β : Type} [Cod α] [Cod β] {w w' : World} {B : Nat} {e e' : TypeId} {A A' : Option Addr} {n c n' c' : Nat} {xs : List α} {ys : List β} {bs : List Nat}
theorem AccN.nil_ (w : World) (B : Nat) (e e' : TypeId) : AccN w B e e' none 0 0 ([] : List α) none 0 0 ([] : List β) [] := ⟨Acc.nil_ _ _ _, Acc.nil_ _ _ _, fun a a' h => (by cases h), fun a h => (by cases h)⟩
theorem AccN.below (h : AccN w B e e' A n c xs A' n' c' ys bs) {C : Nat} (hb : Below C w w') (hC : w.heap.size ≤ C) : AccN w' B e e' A n c xs A' n' c' ys bs := ⟨h.one.below hb hC, h.two.below hb hC, h.dis, h.out⟩
theorem AccN.setCell (h : AccN w B e e' A n c xs A' n' c' ys bs) {p : Addr} (hp : p.block < B) (u : Value) : AccN (w.setCell p u) B e e' A n c xs A' n' c' ys bs :=
  ⟨h.one.setCell (fun a ha e => by have := h.one.lt a ha; omega) (by simp) u, h.two.setCell (fun a ha e => by have := h.two.lt a ha; omega) (fun hm => by have := h.two.fresh.2 _ hm; omega) u, h.dis, h.out⟩
theorem AccN.alloc (h : AccN w B e e' A n c xs A' n' c' ys bs) (o : Obj) : AccN (w.alloc o) B e e' A n c xs A' n' c' ys bs := ⟨h.one.alloc o, h.two.alloc o, h.dis, h.out⟩
theorem AccN.drew (h : AccN w B e e' A n c xs A' n' c' ys bs) : AccN w.drew B e e' A n c xs A' n' c' ys bs := ⟨h.one.drew, h.two.drew, h.dis, h.out⟩
theorem AccN.grow1 (h : AccN w B e e' A n c xs A' n' c' ys bs) {D : Option Addr} {m d : Nat} {zs : List α} (hacc : Acc w' B e D m d zs []) (hgr : w.grownBy w' (A.map (·.block))) (hnew : ∀ a, D = some a → A = some a ∨ w.heap.size ≤ a.block) : AccN w' B e e' D m d zs A' n' c' ys bs :=
  ⟨hacc, h.two.grown hgr (fun a ha e => by
    cases hA : A with
    | none => rw [hA] at e; simp at e
    | some a0 => rw [hA] at e; simp at e; exact h.dis a0 a hA ha e.symm) (fun g hg e => by
    cases hA : A with
    | none => rw [hA] at e; simp at e
    | some a0 => rw [hA] at e; simp at e; exact h.out a0 hA (e ▸ hg)), fun a a' ha ha' e => by
    rcases hnew a ha with h1 | h1
    · exact h.dis a a' h1 ha' e
    · have := h.two.lt a' ha'; omega, fun a ha hm => by
    rcases hnew a ha with h1 | h1
    · exact h.out a h1 hm
    · have := h.two.fresh.2 _ hm; omega⟩
theorem AccN.grow2 (h : AccN w B e e' A n c xs A' n' c' ys bs) {D : Option Addr} {m d : Nat} {zs : List β} {b1 : List Nat} (hacc : Acc w' B e' D m d zs (bs ++ b1)) (hgr : w.grownBy w' (A'.map (·.block))) (hnew : ∀ a, D = some a → A' = some a ∨ w.heap.size ≤ a.block)
    (h1 : ∀ g ∈ b1, ∀ a, A = some a → a.block ≠ g) : AccN w' B e e' A n c xs D m d zs (bs ++ b1) :=
  ⟨h.one.grown hgr (fun a ha e => by
    cases hA : A' with
    | none => rw [hA] at e; simp at e
    | some a0 => rw [hA] at e; simp at e; exact h.dis a a0 ha hA e) (fun g hg => by simp at hg), hacc, fun a a' ha ha' e => by
    rcases hnew a' ha' with h1 | h1
    · exact h.dis a a' ha h1 e
    · have := h.one.lt a ha; omega, fun a ha hm => by
    rcases List.mem_append.1 hm with hm | hm
    · exact h.out a ha hm
    · exact h1 _ hm a ha rfl⟩
/-- Both as what the call owns. -/
theorem AccN.own (h : AccN w B e e' A n c xs A' n' c' ys bs) : ∃ b b', OwnS w A xs b ∧ OwnS w A' ys b' ∧ Fresh B w (b ++ b') := by
  obtain ⟨b, o, f, m⟩ := h.one.own
  obtain ⟨b', o', f', m'⟩ := h.two.own
  have m1 : ∀ g ∈ b, ∃ a, A = some a ∧ a.block = g := fun g hg => (m g hg).resolve_right (by simp)
  refine ⟨b, b', o, o', ⟨List.nodup_append.2 ⟨f.1, f'.1, fun g hg g' hg' e => ?_⟩, fun g hg => ?_⟩⟩
  · obtain ⟨a, ha, rfl⟩ := m1 g hg
    rcases m' g' hg' with ⟨a', ha', rfl⟩ | hm
    · exact h.dis a a' ha ha' e
    · exact h.out a ha (e ▸ hm)
  · rcases List.mem_append.1 hg with hg | hg
    · exact f.2 g hg
    · exact f'.2 g hg
end
end Go.Proofs.Ytpknkaidmefenaa
