/-
  Three lists that a call builds side by side, two of leaves and one of rows. No program in sight. Conditions: those in each statement.
-/
import Derived.Test.YtpknkaidmefenaaCat
set_option linter.unusedVariables false
set_option linter.unusedSimpArgs false
set_option maxRecDepth 100000
set_option maxHeartbeats 1000000
namespace Go.Proofs.Ytpknkaidmefenaa
open Go.RowKit

section
variable {w w' : World} {B : Nat}
theorem Acc.grown2 {α : Type} [Cod α] {e : TypeId} {A A0 : Option Addr} {n c : Nat} {xs : List α} {bs : List Nat} (h : Acc w B e A n c xs bs) (hg : w.grownBy w' (A0.map (·.block))) (hd : ∀ a a0, A = some a → A0 = some a0 → a.block ≠ a0.block) (hb : ∀ a0, A0 = some a0 → a0.block ∉ bs) : Acc w' B e A n c xs bs := by
  cases hA0 : A0 with
  | none => exact h.grown hg (fun a ha => by rw [hA0]; simp) (fun g hg => by rw [hA0]; simp)
  | some a0 => exact h.grown hg (fun a ha => by rw [hA0]; simpa using hd a a0 ha hA0) (fun g hg => by rw [hA0]; simp; rintro rfl; exact hb a0 hA0 hg)

structure Acc3 {α β γ : Type} [Cod α] [Cod β] [Cod γ] (w : World) (B : Nat) (e1 e2 e3 : TypeId) (A1 : Option Addr) (n1 c1 : Nat) (xs : List α) (A2 : Option Addr) (n2 c2 : Nat) (ys : List β) (A3 : Option Addr) (n3 c3 : Nat) (zs : List γ) (bs : List Nat) : Prop where
  one : Acc w B e1 A1 n1 c1 xs []
  two : Acc w B e2 A2 n2 c2 ys []
  three : Acc w B e3 A3 n3 c3 zs bs
  d12 : ∀ a a', A1 = some a → A2 = some a' → a.block ≠ a'.block
  d13 : ∀ a a', A1 = some a → A3 = some a' → a.block ≠ a'.block
  d23 : ∀ a a', A2 = some a → A3 = some a' → a.block ≠ a'.block
  l1 : ∀ a, A1 = some a → a.block ∉ bs
  l2 : ∀ a, A2 = some a → a.block ∉ bs
variable {α β γ : Type} [Cod α] [Cod β] [Cod γ] {e1 e2 e3 : TypeId} {A1 A2 A3 : Option Addr} {n1 c1 n2 c2 n3 c3 : Nat} {xs : List α} {ys : List β} {zs : List γ} {bs : List Nat}
theorem Acc3.nil_ (w : World) (B : Nat) (e1 e2 e3 : TypeId) : Acc3 w B e1 e2 e3 none 0 0 ([] : List α) none 0 0 ([] : List β) none 0 0 ([] : List γ) [] :=
  ⟨Acc.nil_ _ _ _, Acc.nil_ _ _ _, Acc.nil_ _ _ _, (fun _ _ h => by cases h), (fun _ _ h => by cases h), (fun _ _ h => by cases h), (fun _ h => by cases h), (fun _ h => by cases h)⟩
theorem Acc3.below (h : Acc3 w B e1 e2 e3 A1 n1 c1 xs A2 n2 c2 ys A3 n3 c3 zs bs) {C : Nat} (hb : Below C w w') (hC : w.heap.size ≤ C) : Acc3 w' B e1 e2 e3 A1 n1 c1 xs A2 n2 c2 ys A3 n3 c3 zs bs :=
  ⟨h.one.below hb hC, h.two.below hb hC, h.three.below hb hC, h.d12, h.d13, h.d23, h.l1, h.l2⟩
theorem Acc3.setCell (h : Acc3 w B e1 e2 e3 A1 n1 c1 xs A2 n2 c2 ys A3 n3 c3 zs bs) {p : Addr} (hp : p.block < B) (u : Value) : Acc3 (w.setCell p u) B e1 e2 e3 A1 n1 c1 xs A2 n2 c2 ys A3 n3 c3 zs bs :=
  ⟨h.one.setCell (fun a ha => by have := h.one.lt a ha; omega) (by simp) u, h.two.setCell (fun a ha => by have := h.two.lt a ha; omega) (by simp) u,
    h.three.setCell (fun a ha => by have := h.three.lt a ha; omega) (fun hm => by have := (h.three.fresh.2 _ hm).1; omega) u, h.d12, h.d13, h.d23, h.l1, h.l2⟩
theorem Acc3.grow1 (h : Acc3 w B e1 e2 e3 A1 n1 c1 xs A2 n2 c2 ys A3 n3 c3 zs bs) {D : Option Addr} {m d : Nat} {vs : List α} (hacc : Acc w' B e1 D m d vs []) (hgr : w.grownBy w' (A1.map (·.block))) (hnew : ∀ a, D = some a → A1 = some a ∨ w.heap.size ≤ a.block) : Acc3 w' B e1 e2 e3 D m d vs A2 n2 c2 ys A3 n3 c3 zs bs :=
  ⟨hacc, h.two.grown2 hgr (fun a a0 ha h0 e => h.d12 a0 a h0 ha e.symm) (fun _ _ => by simp), h.three.grown2 hgr (fun a a0 ha h0 e => h.d13 a0 a h0 ha e.symm) h.l1,
    fun a a' ha ha' e => (hnew a ha).elim (fun h1 => h.d12 a a' h1 ha' e) (fun h1 => by have := h.two.lt a' ha'; omega),
    fun a a' ha ha' e => (hnew a ha).elim (fun h1 => h.d13 a a' h1 ha' e) (fun h1 => by have := h.three.lt a' ha'; omega), h.d23,
    fun a ha hm => (hnew a ha).elim (fun h1 => h.l1 a h1 hm) (fun h1 => by have := (h.three.fresh.2 _ hm).2; omega), h.l2⟩
theorem Acc3.grow2 (h : Acc3 w B e1 e2 e3 A1 n1 c1 xs A2 n2 c2 ys A3 n3 c3 zs bs) {D : Option Addr} {m d : Nat} {vs : List β} (hacc : Acc w' B e2 D m d vs []) (hgr : w.grownBy w' (A2.map (·.block))) (hnew : ∀ a, D = some a → A2 = some a ∨ w.heap.size ≤ a.block) : Acc3 w' B e1 e2 e3 A1 n1 c1 xs D m d vs A3 n3 c3 zs bs :=
  ⟨h.one.grown2 hgr h.d12 (fun _ _ => by simp), hacc, h.three.grown2 hgr (fun a a0 ha h0 e => h.d23 a0 a h0 ha e.symm) h.l2,
    fun a a' ha ha' e => (hnew a' ha').elim (fun h1 => h.d12 a a' ha h1 e) (fun h1 => by have := h.one.lt a ha; omega), h.d13,
    fun a a' ha ha' e => (hnew a ha).elim (fun h1 => h.d23 a a' h1 ha' e) (fun h1 => by have := h.three.lt a' ha'; omega), h.l1,
    fun a ha hm => (hnew a ha).elim (fun h1 => h.l2 a h1 hm) (fun h1 => by have := (h.three.fresh.2 _ hm).2; omega)⟩
theorem Acc3.grow3 (h : Acc3 w B e1 e2 e3 A1 n1 c1 xs A2 n2 c2 ys A3 n3 c3 zs bs) {D : Option Addr} {m d : Nat} {vs : List γ} {b1 : List Nat} (hacc : Acc w' B e3 D m d vs (bs ++ b1)) (hgr : w.grownBy w' (A3.map (·.block))) (hnew : ∀ a, D = some a → A3 = some a ∨ w.heap.size ≤ a.block)
    (hb1 : ∀ k ∈ b1, (∀ a, A1 = some a → a.block ≠ k) ∧ ∀ a, A2 = some a → a.block ≠ k) : Acc3 w' B e1 e2 e3 A1 n1 c1 xs A2 n2 c2 ys D m d vs (bs ++ b1) :=
  ⟨h.one.grown2 hgr h.d13 (fun _ _ => by simp), h.two.grown2 hgr h.d23 (fun _ _ => by simp), hacc, h.d12,
    fun a a' ha ha' e => (hnew a' ha').elim (fun h1 => h.d13 a a' ha h1 e) (fun h1 => by have := h.one.lt a ha; omega),
    fun a a' ha ha' e => (hnew a' ha').elim (fun h1 => h.d23 a a' ha h1 e) (fun h1 => by have := h.two.lt a ha; omega),
    fun a ha hm => by
      rcases List.mem_append.1 hm with hm | hm
      · exact h.l1 a ha hm
      · exact (hb1 _ hm).1 a ha rfl,
    fun a ha hm => by
      rcases List.mem_append.1 hm with hm | hm
      · exact h.l2 a ha hm
      · exact (hb1 _ hm).2 a ha rfl⟩
theorem Acc3.far (h : Acc3 w B e1 e2 e3 A1 n1 c1 xs A2 n2 c2 ys A3 n3 c3 zs bs) {B' : Nat} {b1 : List Nat} {w1 : World} (hf : Fresh B' w1 b1) (hB : w.heap.size ≤ B') : ∀ k ∈ b1, (∀ a, A1 = some a → a.block ≠ k) ∧ ∀ a, A2 = some a → a.block ≠ k := fun k hk =>
  ⟨fun a ha e => by have := (h.one.lt a ha).2; have := (hf.2 k hk).1; omega, fun a ha e => by have := (h.two.lt a ha).2; have := (hf.2 k hk).1; omega⟩
/-- All of it as owned lists on different blocks. -/
theorem Acc3.own (h : Acc3 w B e1 e2 e3 A1 n1 c1 xs A2 n2 c2 ys A3 n3 c3 zs bs) : ∃ b1 b2 b3, OwnS w A1 xs b1 ∧ OwnS w A2 ys b2 ∧ OwnS w A3 zs b3 ∧ Fresh B w (b1 ++ (b2 ++ b3)) := by
  obtain ⟨b1, o1, f1, m1⟩ := h.one.own
  obtain ⟨b2, o2, f2, m2⟩ := h.two.own
  obtain ⟨b3, o3, f3, m3⟩ := h.three.own
  have k1 : ∀ g ∈ b1, ∃ a, A1 = some a ∧ a.block = g := fun g hg => (m1 g hg).resolve_right (by simp)
  have k2 : ∀ g ∈ b2, ∃ a, A2 = some a ∧ a.block = g := fun g hg => (m2 g hg).resolve_right (by simp)
  refine ⟨b1, b2, b3, o1, o2, o3, List.nodup_append.2 ⟨f1.1, List.nodup_append.2 ⟨f2.1, f3.1, fun g hg g' hg' e => ?_⟩, fun g hg g' hg' e => ?_⟩, fun g hg => ?_⟩
  · obtain ⟨a, ha, rfl⟩ := k2 g hg
    subst e
    rcases m3 _ hg' with ⟨a', ha', e'⟩ | hm
    · exact h.d23 a a' ha ha' e'.symm
    · exact h.l2 a ha hm
  · obtain ⟨a, ha, rfl⟩ := k1 g hg
    subst e
    rcases List.mem_append.1 hg' with hg' | hg'
    · obtain ⟨a', ha', e'⟩ := k2 _ hg'
      exact h.d12 a a' ha ha' e'.symm
    · rcases m3 _ hg' with ⟨a', ha', e'⟩ | hm
      · exact h.d13 a a' ha ha' e'.symm
      · exact h.l1 a ha hm
  · rcases List.mem_append.1 hg with hg | hg
    · exact f1.2 g hg
    · rcases List.mem_append.1 hg with hg | hg
      · exact f2.2 g hg
      · exact f3.2 g hg
end
end Go.Proofs.Ytpknkaidmefenaa
