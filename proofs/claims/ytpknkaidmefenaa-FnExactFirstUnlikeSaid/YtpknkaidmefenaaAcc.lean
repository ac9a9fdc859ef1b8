/-
  A slice that the call itself builds, one element after the other: what it owns, and the law of append on it. No program in sight. Conditions: those in each statement.
-/
import Derived.Test.YtpknkaidmefenaaMem
import Derived.Deep.AppendLies
import Derived.Maps.AppendAt
set_option linter.unusedVariables false
set_option linter.unusedSimpArgs false
set_option maxRecDepth 100000
set_option maxHeartbeats 1000000
namespace Go.Proofs.Ytpknkaidmefenaa
open Go.RowKit

/-- '.slice A n c' owns the list xs, from block B on; bs: the blocks of its elements. -/
structure Acc {α : Type} [Cod α] (w : World) (B : Nat) (e : TypeId) (A : Option Addr) (n c : Nat) (xs : List α) (bs : List Nat) : Prop where
  len : n = xs.length
  cells : ∃ cs, w.ownsRow B e (Cod.size α) (.slice A n c) n cs ∧ Els w xs cs bs
  fresh : Fresh B w bs
  out : ∀ a, A = some a → a.block ∉ bs

section
variable {α : Type} [Cod α] {w w' : World} {B : Nat} {e : TypeId} {A : Option Addr} {n c : Nat} {xs : List α} {bs : List Nat}
theorem Acc.nil_ (w : World) (B : Nat) (e : TypeId) : Acc w B e none 0 0 ([] : List α) [] :=
  ⟨rfl, ⟨[], World.ownsRow_nil _ _ _ _, rfl, rfl⟩, ⟨List.nodup_nil, fun g hg => by simp at hg⟩, fun a h => by cases h⟩
theorem Acc.keep (h : Acc w B e A n c xs bs) (hA : ∀ a, A = some a → w'.heap[a.block]? = w.heap[a.block]?) (hb : ∀ g ∈ bs, w'.heap[g]? = w.heap[g]?) (hs : w.heap.size ≤ w'.heap.size) : Acc w' B e A n c xs bs := by
  obtain ⟨cs, ⟨o1, o2⟩, he⟩ := h.cells
  refine ⟨h.len, ⟨cs, ⟨o1, ?_⟩, he.keep hb⟩, h.fresh.more hs, h.out⟩
  rcases o2 with o2 | ⟨g, cap, cur, hv, hB, hg, r⟩
  · exact .inl o2
  · refine .inr ⟨g, cap, cur, hv, hB, ?_, r⟩
    have : A = some ⟨g, 0, none⟩ := by injection hv
    exact (hA _ this).trans hg
theorem Acc.lt (h : Acc w B e A n c xs bs) : ∀ a, A = some a → B ≤ a.block ∧ a.block < w.heap.size := fun a ha => by
  obtain ⟨cs, ho, _⟩ := h.cells
  exact ho.lt a.block (by simp [Value.ownBlock, ha])
theorem Acc.below (h : Acc w B e A n c xs bs) {C : Nat} (hb : Below C w w') (hC : w.heap.size ≤ C) : Acc w' B e A n c xs bs :=
  h.keep (fun a ha => hb.block _ (Nat.lt_of_lt_of_le (h.lt a ha).2 hC)) (fun g hg => hb.block _ (Nat.lt_of_lt_of_le (h.fresh.2 g hg).2 hC)) hb.size
theorem Acc.alloc (h : Acc w B e A n c xs bs) (o : Obj) : Acc (w.alloc o) B e A n c xs bs := h.below ((Below.refl _ _).alloc (Nat.le_refl _) o) (Nat.le_refl _)
theorem Acc.drew (h : Acc w B e A n c xs bs) : Acc w.drew B e A n c xs bs := h.below (Below.refl _ _).drew (Nat.le_refl _)
/-- A store into a block that is none of its own. -/
theorem Acc.setCell (h : Acc w B e A n c xs bs) {p : Addr} (hA : ∀ a, A = some a → a.block ≠ p.block) (hb : p.block ∉ bs) (u : Value) : Acc (w.setCell p u) B e A n c xs bs :=
  h.keep (fun a ha => Below.heap_setCell _ _ _ _ (hA a ha)) (fun g hg => Below.heap_setCell _ _ _ _ (fun e => hb (by subst e; exact hg))) (by simp [World.setCell])
/-- Another row has grown. -/
theorem Acc.grown (h : Acc w B e A n c xs bs) {row : Option Nat} (hg : w.grownBy w' row) (hA : ∀ a, A = some a → some a.block ≠ row) (hb : ∀ g ∈ bs, some g ≠ row) : Acc w' B e A n c xs bs :=
  h.keep (fun a ha => hg.block _ (h.lt a ha).2 (hA a ha)) (fun g hg' => hg.block _ (h.fresh.2 g hg').2 (hb g hg')) hg.size
theorem Acc.own (h : Acc w B e A n c xs bs) : ∃ b2, OwnS w A xs b2 ∧ Fresh B w b2 ∧ ∀ g ∈ b2, (∃ a, A = some a ∧ a.block = g) ∨ g ∈ bs := by
  obtain ⟨cs, ⟨o1, o2⟩, he⟩ := h.cells
  rcases o2 with ⟨hv, h0⟩ | ⟨g, cap, cur, hv, hB, hg, hnc, hcm, hcur, htake⟩
  · refine ⟨[], .inl ⟨?_, rfl⟩, ⟨List.nodup_nil, fun g hg => by simp at hg⟩, fun g hg => by simp at hg⟩
    have := h.len
    exact List.eq_nil_of_length_eq_zero (by omega)
  · have hA : A = some ⟨g, 0, none⟩ := by injection hv
    refine ⟨g :: bs, ?_, ⟨List.nodup_cons.2 ⟨h.out _ hA, h.fresh.1⟩, ?_⟩, ?_⟩
    · rw [hA]
      exact OwnS.of (m := n * Cod.size α) hg (by rw [htake]; exact he)
    · intro x hx
      rcases List.mem_cons.1 hx with rfl | hx
      · exact ⟨hB, (Array.getElem?_eq_some_iff.1 hg).1⟩
      · exact h.fresh.2 x hx
    · intro x hx
      rcases List.mem_cons.1 hx with rfl | hx
      · exact .inl ⟨_, hA, rfl⟩
      · exact .inr hx
theorem Acc.far (h : Acc w B e A n c xs bs) {b : Nat} (hb : b < B) : some b ≠ A.map (·.block) := fun e1 => by
  cases hA : A with
  | none => rw [hA] at e1; simp at e1
  | some a => rw [hA] at e1; simp at e1; have := h.lt a hA; omega
/-- It reads as the list, from its own blocks. -/
theorem Acc.rd (h : Acc w B e A n c xs bs) : RdS w w.heap.size A xs := by
  obtain ⟨b2, ho, hf, _⟩ := h.own
  exact ho.rd fun g hg => (hf.2 g hg).2
end

/-- Two of leaves, on different blocks. -/
theorem Acc.own2 {α β : Type} [Cod α] [Cod β] {w : World} {B : Nat} {e e' : TypeId} {A A' : Option Addr} {n n' c c' : Nat} {xs : List α} {ys : List β} (h : Acc w B e A n c xs []) (h' : Acc w B e' A' n' c' ys [])
    (hd : ∀ a a', A = some a → A' = some a' → a.block ≠ a'.block) : ∃ b b', OwnS w A xs b ∧ OwnS w A' ys b' ∧ Fresh B w (b ++ b') ∧ (∀ g ∈ b, ∃ a, A = some a ∧ a.block = g) ∧ (∀ g ∈ b', ∃ a, A' = some a ∧ a.block = g) := by
  obtain ⟨b, o, f, m⟩ := h.own
  obtain ⟨b', o', f', m'⟩ := h'.own
  have m1 : ∀ g ∈ b, ∃ a, A = some a ∧ a.block = g := fun g hg => (m g hg).resolve_right (by simp)
  have m2 : ∀ g ∈ b', ∃ a, A' = some a ∧ a.block = g := fun g hg => (m' g hg).resolve_right (by simp)
  refine ⟨b, b', o, o', ⟨List.nodup_append.2 ⟨f.1, f'.1, fun g hg g' hg' e => ?_⟩, fun g hg => ?_⟩, m1, m2⟩
  · obtain ⟨a, ha, rfl⟩ := m1 g hg
    obtain ⟨a', ha', rfl⟩ := m2 g' hg'
    exact hd a a' ha ha' e
  · rcases List.mem_append.1 hg with hg | hg
    · exact f.2 g hg
    · exact f'.2 g hg

/-- append of ONE element. -/
theorem wpList_push {α : Type} [Cod α] {P : Program} (w : World) {ops : Array Oper} {rest : List Oper} {o : Oper} {a : Act} {Q : Exit → Act → World → Prop} (hgd : o.guard = none) (s x : Operand) (t : TypeId)
    (ho : o.op = .call { callee := .builtin .append, args := #[s, x], argTypes := #[t, t] })
    (B : Nat) (e : TypeId) (z : Value) (bytes : Nat) (ht : P.underlying t = some (.slice e)) (hinfo : (P.info? e).map (fun i => (i.zero, i.size, i.bytes)) = some (some z, Cod.size α, bytes)) (hzs : z.cells.size = Cod.size α)
    (A : Option Addr) (n c : Nat) (xs : List α) (bs : List Nat) (hs : a.eval s = .slice A n c) (hacc : Acc w B e A n c xs bs)
    (g m : Nat) (hx : a.eval x = .slice (some ⟨g, 0, none⟩) 1 m) (y : α) (news : List Value) (b1 : List Nat) (hy : Cod.own w y news b1) (hnews : ∀ j u, news[j]? = some u → w.cell? ⟨g, j, none⟩ = some u) (h1 : ∀ u ∈ news, u.oneCell' = true)
    (hf : Fresh B w b1) (hd : ∀ k ∈ b1, k ∉ bs ∧ ∀ a, A = some a → a.block ≠ k)
    (h63 : n + 1 ≤ 9223372036854775807) (hbytes : (n + 1) * bytes ≤ 140737488355328) (hbase : B ≤ w.heap.size)
    (h : ∀ A' c' w', Acc w' B e A' (n + 1) c' (xs ++ [y]) (bs ++ b1) → w.grownBy w' (A.map (·.block)) → (∀ a', A' = some a' → A = some a' ∨ w.heap.size ≤ a'.block) → wpList P ops Q rest (a.put o.dst (.slice A' (n + 1) c')) w') : wpList P ops Q (o :: rest) a w := by
  obtain ⟨i0, hi, hz0, hz1, hz2⟩ := info_parts hinfo
  obtain ⟨cs, hown, he⟩ := hacc.cells
  have hlen := own_len hy
  refine wpList_append_own_at w hgd s x t ho B e i0 z (Cod.size α) bytes ht hi hz0 hz1 hz2 hzs Cod.pos (.slice A n c) n cs hs hown ⟨g, 0, none⟩ 1 m news hx (by rw [Nat.one_mul]; exact hlen)
    (fun j u hu => by
      have : (⟨g, 0, none⟩ : Addr).add j = ⟨g, j, none⟩ := by unfold Addr.add; split <;> simp_all
      rw [this]; exact hnews j u hu) h1 (by simp only [maxLen]; omega) hbytes hbase ?_
  intro v' w' hown' hgrow _ hat
  obtain ⟨g', cap, rfl, hB', hlt'⟩ := hown'.form (by omega)
  have hrow : (Value.slice A n c).ownBlock = A.map (·.block) := by cases A <;> rfl
  rw [hrow] at hgrow hat
  have hnew : ∀ a', (some (⟨g', 0, none⟩ : Addr)) = some a' → A = some a' ∨ w.heap.size ≤ a'.block := by
    intro a' ha'
    obtain rfl : (⟨g', 0, none⟩ : Addr) = a' := by injection ha'
    rcases hat with e1 | e1
    · left
      rcases hown.2 with ⟨hv, _⟩ | ⟨g0, cap0, cur0, hv, _⟩
      · have : A = none := by injection hv
        rw [this] at e1
        simp [Value.ownBlock] at e1
      · have hA : A = some ⟨g0, 0, none⟩ := by injection hv
        rw [hA] at e1 ⊢
        simp [Value.ownBlock] at e1
        rw [e1]
    · right
      simp [Value.ownBlock] at e1
      show w.heap.size ≤ g'
      omega
  have hkeep : ∀ k, k ∈ bs ∨ k ∈ b1 → w'.heap[k]? = w.heap[k]? := by
    intro k hk
    refine hgrow.block k ?_ ?_
    · rcases hk with hk | hk
      · exact (hacc.fresh.2 k hk).2
      · exact (hf.2 k hk).2
    · intro e1
      cases hA : A with
      | none => rw [hA] at e1; simp at e1
      | some a0 =>
        rw [hA] at e1
        simp at e1
        rcases hk with hk | hk
        · exact hacc.out a0 hA (e1 ▸ hk)
        · exact (hd k hk).2 a0 hA e1.symm
  refine h _ _ _ ⟨by rw [List.length_append, ← hacc.len]; rfl, ⟨_, hown', (he.keep fun k hk => hkeep k (.inl hk)).snoc (Cod.own_keep (fun k hk => hkeep k (.inr hk)) hy)⟩, ⟨?_, ?_⟩, ?_⟩ hgrow hnew
  · exact List.nodup_append.2 ⟨hacc.fresh.1, hf.1, fun k hk k' hk' e1 => (hd k' hk').1 (e1 ▸ hk)⟩
  · intro k hk
    rcases List.mem_append.1 hk with hk | hk
    · exact ((hacc.fresh.more hgrow.size).2 k hk)
    · exact ((hf.more hgrow.size).2 k hk)
  · intro a' ha' hmem
    rcases hnew a' ha' with hA | hge
    · rcases List.mem_append.1 hmem with hk | hk
      · exact hacc.out a' hA hk
      · exact (hd _ hk).2 a' hA rfl
    · rcases List.mem_append.1 hmem with hk | hk
      · have := (hacc.fresh.2 _ hk).2; omega
      · have := (hf.2 _ hk).2; omega
/-- '[]T{}': a block of no cells. -/
theorem Acc.empty_ {α : Type} [Cod α] {w : World} {B : Nat} {e : TypeId} {g : Nat} (h : w.heap[g]? = some (.cells #[] e (0, 0))) (hB : B ≤ g) : Acc w B e (some ⟨g, 0, none⟩) 0 0 ([] : List α) [] :=
  ⟨rfl, ⟨[], ⟨by simp, .inr ⟨g, 0, #[], rfl, hB, h, Nat.le_refl _, by simp [maxLen], by simp, by simp⟩⟩, rfl, rfl⟩, ⟨List.nodup_nil, fun g hg => by simp at hg⟩, fun a h => by simp⟩
/-- append of ONE element, as a step of a region that draws its order. -/
theorem step_push {α : Type} [Cod α] {P : Program} (w : World) {ops : Array Oper} {o : Oper} {a : Act} {K : Act → World → Prop} {Q : Exit → Act → World → Prop} {E : Prop} (hgd : o.guard = none) (s x : Operand) (t : TypeId)
    (ho : o.op = .call { callee := .builtin .append, args := #[s, x], argTypes := #[t, t] })
    (B : Nat) (e : TypeId) (z : Value) (bytes : Nat) (ht : P.underlying t = some (.slice e)) (hinfo : (P.info? e).map (fun i => (i.zero, i.size, i.bytes)) = some (some z, Cod.size α, bytes)) (hzs : z.cells.size = Cod.size α)
    (A : Option Addr) (n c : Nat) (xs : List α) (bs : List Nat) (hs : a.eval s = .slice A n c) (hacc : Acc w B e A n c xs bs)
    (g m : Nat) (hx : a.eval x = .slice (some ⟨g, 0, none⟩) 1 m) (y : α) (news : List Value) (b1 : List Nat) (hy : Cod.own w y news b1) (hnews : ∀ j u, news[j]? = some u → w.cell? ⟨g, j, none⟩ = some u) (h1 : ∀ u ∈ news, u.oneCell' = true)
    (hf : Fresh B w b1) (hd : ∀ k ∈ b1, k ∉ bs ∧ ∀ a, A = some a → a.block ≠ k)
    (h63 : n + 1 ≤ 9223372036854775807) (hbytes : (n + 1) * bytes ≤ 140737488355328) (hbase : B ≤ w.heap.size)
    (h : ∀ A' c' w', Acc w' B e A' (n + 1) c' (xs ++ [y]) (bs ++ b1) → w.grownBy w' (A.map (·.block)) → (∀ a', A' = some a' → A = some a' ∨ w.heap.size ≤ a'.block) → K (a.put o.dst (.slice A' (n + 1) c')) w') :
    if Region.wanted o (yielded ops a.tmps) = true then Oper.wp P o a w K Q else E := by
  obtain ⟨i0, hi, hz0, hz1, hz2⟩ := info_parts hinfo
  obtain ⟨cs, hown, he⟩ := hacc.cells
  have hlen := own_len hy
  refine step_append_lies (w := w) hgd s x t ho B e i0 z (Cod.size α) bytes ht hi hz0 hz1 hz2 hzs Cod.pos (.slice A n c) n cs hs hown ⟨g, 0, none⟩ 1 m news hx (by rw [Nat.one_mul]; exact hlen)
    (fun j u hu => by
      have : (⟨g, 0, none⟩ : Addr).add j = ⟨g, j, none⟩ := by unfold Addr.add; split <;> simp_all
      rw [this]; exact hnews j u hu) h1 (by omega) (by simp only [maxLen]; omega) hbytes hbase w.heap.size rfl ?_
  intro g' cap w' hown' hgrow hat hlt'
  have hrow : (Value.slice A n c).ownBlock = A.map (·.block) := by cases A <;> rfl
  rw [hrow] at hgrow hat
  have hnew : ∀ a', (some (⟨g', 0, none⟩ : Addr)) = some a' → A = some a' ∨ w.heap.size ≤ a'.block := by
    intro a' ha'
    obtain rfl : (⟨g', 0, none⟩ : Addr) = a' := by injection ha'
    rcases hat with e1 | e1
    · left
      rcases hown.2 with ⟨hv, _⟩ | ⟨g0, cap0, cur0, hv, _⟩
      · have : A = none := by injection hv
        rw [this] at e1
        simp at e1
      · have hA : A = some ⟨g0, 0, none⟩ := by injection hv
        rw [hA] at e1 ⊢
        simp at e1
        rw [e1]
    · right
      show w.heap.size ≤ g'
      omega
  have hkeep : ∀ k, k ∈ bs ∨ k ∈ b1 → w'.heap[k]? = w.heap[k]? := by
    intro k hk
    refine hgrow.block k ?_ ?_
    · rcases hk with hk | hk
      · exact (hacc.fresh.2 k hk).2
      · exact (hf.2 k hk).2
    · intro e1
      cases hA : A with
      | none => rw [hA] at e1; simp at e1
      | some a0 =>
        rw [hA] at e1
        simp at e1
        rcases hk with hk | hk
        · exact hacc.out a0 hA (e1 ▸ hk)
        · exact (hd k hk).2 a0 hA e1.symm
  refine h _ _ _ ⟨by rw [List.length_append, ← hacc.len]; rfl, ⟨_, hown', (he.keep fun k hk => hkeep k (.inl hk)).snoc (Cod.own_keep (fun k hk => hkeep k (.inr hk)) hy)⟩, ⟨?_, ?_⟩, ?_⟩ hgrow hnew
  · exact List.nodup_append.2 ⟨hacc.fresh.1, hf.1, fun k hk k' hk' e1 => (hd k' hk').1 (e1 ▸ hk)⟩
  · intro k hk
    rcases List.mem_append.1 hk with hk | hk
    · exact ((hacc.fresh.more hgrow.size).2 k hk)
    · exact ((hf.more hgrow.size).2 k hk)
  · intro a' ha' hmem
    rcases hnew a' ha' with hA | hge
    · rcases List.mem_append.1 hmem with hk | hk
      · exact hacc.out a' hA hk
      · exact (hd _ hk).2 a' hA rfl
    · rcases List.mem_append.1 hmem with hk | hk
      · have := (hacc.fresh.2 _ hk).2; omega
      · have := (hf.2 _ hk).2; omega

/-- What lies below the base is as it was, behind an append. -/
theorem Acc.box {α : Type} [Cod α] {w w' : World} {B : Nat} {e : TypeId} {A : Option Addr} {n c : Nat} {xs : List α} {bs : List Nat} (h : Acc w B e A n c xs bs) (hgr : w.grownBy w' (A.map (·.block))) {k : Nat} {o : Obj} (hk : w.heap[k]? = some o) (hlt : k < B) : w'.heap[k]? = some o :=
  (hgr.block k (Array.getElem?_eq_some_iff.1 hk).1 (h.far hlt)).trans hk
theorem Acc.since {α : Type} [Cod α] {w0 w w' : World} {B C : Nat} {e : TypeId} {A : Option Addr} {n c : Nat} {xs : List α} {bs : List Nat} (h : Acc w B e A n c xs bs) (hgr : w.grownBy w' (A.map (·.block))) (hs : Below C w0 w) (hC : C ≤ B) (hz : C ≤ w.heap.size) : Below C w0 w' :=
  Below.grown hs hgr hz fun g hg => by
    cases hD : A with
    | none => rw [hD] at hg; simp at hg
    | some a => rw [hD] at hg; simp at hg; have := h.lt a hD; omega
/-- Two accumulators of leaves, on different blocks. -/
structure Acc2 {α β : Type} [Cod α] [Cod β] (w : World) (B : Nat) (e e' : TypeId) (A : Option Addr) (n c : Nat) (xs : List α) (A' : Option Addr) (n' c' : Nat) (ys : List β) : Prop where
  one : Acc w B e A n c xs []
  two : Acc w B e' A' n' c' ys []
  dis : ∀ a a', A = some a → A' = some a' → a.block ≠ a'.block
section
variable {α β : Type} [Cod α] [Cod β] {w w' : World} {B : Nat} {e e' : TypeId} {A A' : Option Addr} {n c n' c' : Nat} {xs : List α} {ys : List β}
theorem Acc2.nil_ (w : World) (B : Nat) (e e' : TypeId) : Acc2 w B e e' none 0 0 ([] : List α) none 0 0 ([] : List β) := ⟨Acc.nil_ _ _ _, Acc.nil_ _ _ _, fun a a' h => by cases h⟩
theorem Acc2.below (h : Acc2 w B e e' A n c xs A' n' c' ys) {C : Nat} (hb : Below C w w') (hC : w.heap.size ≤ C) : Acc2 w' B e e' A n c xs A' n' c' ys := ⟨h.one.below hb hC, h.two.below hb hC, h.dis⟩
theorem Acc2.setCell (h : Acc2 w B e e' A n c xs A' n' c' ys) {p : Addr} (hp : p.block < B) (u : Value) : Acc2 (w.setCell p u) B e e' A n c xs A' n' c' ys :=
  ⟨h.one.setCell (fun a ha e => by have := h.one.lt a ha; omega) (by simp) u, h.two.setCell (fun a ha e => by have := h.two.lt a ha; omega) (by simp) u, h.dis⟩
theorem Acc2.alloc (h : Acc2 w B e e' A n c xs A' n' c' ys) (o : Obj) : Acc2 (w.alloc o) B e e' A n c xs A' n' c' ys := ⟨h.one.alloc o, h.two.alloc o, h.dis⟩
theorem Acc2.drew (h : Acc2 w B e e' A n c xs A' n' c' ys) : Acc2 w.drew B e e' A n c xs A' n' c' ys := ⟨h.one.drew, h.two.drew, h.dis⟩
theorem Acc2.grow1 (h : Acc2 w B e e' A n c xs A' n' c' ys) {D : Option Addr} {m d : Nat} {zs : List α} (hacc : Acc w' B e D m d zs []) (hgr : w.grownBy w' (A.map (·.block))) (hnew : ∀ a, D = some a → A = some a ∨ w.heap.size ≤ a.block) : Acc2 w' B e e' D m d zs A' n' c' ys :=
  ⟨hacc, h.two.grown hgr (fun a ha e => by
    cases hA : A with
    | none => rw [hA] at e; simp at e
    | some a0 => rw [hA] at e; simp at e; exact h.dis a0 a hA ha e.symm) (fun g hg => by simp at hg), fun a a' ha ha' e => by
    rcases hnew a ha with h1 | h1
    · exact h.dis a a' h1 ha' e
    · have := h.two.lt a' ha'; omega⟩
theorem Acc2.grow2 (h : Acc2 w B e e' A n c xs A' n' c' ys) {D : Option Addr} {m d : Nat} {zs : List β} (hacc : Acc w' B e' D m d zs []) (hgr : w.grownBy w' (A'.map (·.block))) (hnew : ∀ a, D = some a → A' = some a ∨ w.heap.size ≤ a.block) : Acc2 w' B e e' A n c xs D m d zs :=
  ⟨h.one.grown hgr (fun a ha e => by
    cases hA : A' with
    | none => rw [hA] at e; simp at e
    | some a0 => rw [hA] at e; simp at e; exact h.dis a a0 ha hA e) (fun g hg => by simp at hg), hacc, fun a a' ha ha' e => by
    rcases hnew a' ha' with h1 | h1
    · exact h.dis a a' ha h1 e
    · have := h.one.lt a ha; omega⟩
end
theorem range_snoc {β : Type} (f : Nat → β) (n : Nat) : (List.range (n + 1)).map f = (List.range n).map f ++ [f n] := by rw [List.range_succ, List.map_append]; rfl
theorem grown_block {w w' : World} {A : Option Addr} {k : Nat} (h : w.grownBy w' (A.map (·.block))) (hk : k < w.heap.size) (hA : ∀ a, A = some a → a.block ≠ k) : w'.heap[k]? = w.heap[k]? :=
  h.block k hk fun e => by
    cases hAA : A with
    | none => rw [hAA] at e; simp at e
    | some a => rw [hAA] at e; simp at e; exact hA a hAA e.symm
theorem alloc_block {w : World} {k : Nat} {o : Obj} {x : Option Obj} (h : w.heap[k]? = x) (hk : k < w.heap.size) : (w.alloc o).heap[k]? = x := (Below.heap_alloc w o k hk).trans h
end Go.Proofs.Ytpknkaidmefenaa
