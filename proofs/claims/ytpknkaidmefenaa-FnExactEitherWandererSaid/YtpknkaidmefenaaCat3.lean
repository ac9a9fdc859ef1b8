/-
  append of a whole list of rows to a list of rows. No program in sight. Conditions: those in each statement.
-/
import Derived.Test.YtpknkaidmefenaaCat
set_option linter.unusedVariables false
set_option linter.unusedSimpArgs false
set_option maxRecDepth 100000
set_option maxHeartbeats 1000000
namespace Go.Proofs.Ytpknkaidmefenaa
open Go.RowKit

/-- append(s, x...): x a list of rows that the call owns. -/
theorem wpList_catR {α : Type} [Cod α] {P : Program} (w : World) {ops : Array Oper} {rest : List Oper} {o : Oper} {a : Act} {Q : Exit → Act → World → Prop} (hgd : o.guard = none) (s x : Operand) (t : TypeId)
    (ho : o.op = .call { callee := .builtin .append, args := #[s, x], argTypes := #[t, t] })
    (B : Nat) (e : TypeId) (z : Value) (bytes : Nat) (ht : P.underlying t = some (.slice e)) (hinfo : (P.info? e).map (fun i => (i.zero, i.size, i.bytes)) = some (some z, Cod.size α, bytes)) (hzs : z.cells.size = Cod.size α)
    (A : Option Addr) (n c : Nat) (xs : List α) (bs : List Nat) (hs : a.eval s = .slice A n c) (hacc : Acc w B e A n c xs bs)
    (ad : Addr) (m cp : Nat) (hx : a.eval x = .slice (some ad) m cp) (ys : List α) (hm : ys.length = m) (news : List Value) (b2 : List Nat) (hels : Els w ys news b2) (hf2 : Fresh B w b2) (hd2 : ∀ k ∈ b2, k ∉ bs ∧ ∀ a, A = some a → a.block ≠ k) (hnews : ∀ j u, news[j]? = some u → w.cell? (ad.add j) = some u) (h1 : ∀ u ∈ news, u.oneCell' = true)
    (hpos : 0 < n + m) (h63 : n + m ≤ 9223372036854775807) (hbytes : (n + m) * bytes ≤ 140737488355328) (hbase : B ≤ w.heap.size)
    (h : ∀ A' c' w', Acc w' B e A' (n + m) c' (xs ++ ys) (bs ++ b2) → w.grownBy w' (A.map (·.block)) → (∀ a', A' = some a' → A = some a' ∨ w.heap.size ≤ a'.block) → wpList P ops Q rest (a.put o.dst (.slice A' (n + m) c')) w') : wpList P ops Q (o :: rest) a w := by
  obtain ⟨i0, hi, hz0, hz1, hz2⟩ := info_parts hinfo
  obtain ⟨cs, hown, he⟩ := hacc.cells
  have hlen : news.length = m * Cod.size α := by rw [hels.len, hm]
  refine wpList_append_own_at w hgd s x t ho B e i0 z (Cod.size α) bytes ht hi hz0 hz1 hz2 hzs Cod.pos (.slice A n c) n cs hs hown ad m cp news hx hlen hnews h1 (by simp only [maxLen]; omega) hbytes hbase ?_
  intro v' w' hown' hgrow _ hat
  obtain ⟨g', cap, rfl, hB', hlt'⟩ := hown'.form (by omega)
  have hrow : (Value.slice A n c).ownBlock = A.map (·.block) := by cases A <;> rfl
  rw [hrow] at hgrow hat
  have hnew : ∀ a', (some (⟨g', 0, none⟩ : Addr)) = some a' → A = some a' ∨ w.heap.size ≤ a'.block := by
    intro a' ha'
    obtain rfl : (⟨g', 0, none⟩ : Addr) = a' := by injection ha'
    rcases hat with e1 | e1
    · left
      rcases hown.2 with ⟨hv, _⟩ | ⟨g0, cap0, cur0, hv, _⟩
      · have : A = none := by injection hv
        rw [this] at e1
        simp [Value.ownBlock] at e1
      · have hA : A = some ⟨g0, 0, none⟩ := by injection hv
        rw [hA] at e1 ⊢
        simp [Value.ownBlock] at e1
        rw [e1]
    · right
      simp [Value.ownBlock] at e1
      show w.heap.size ≤ g'
      omega
  have hkeep : ∀ k, k ∈ bs → w'.heap[k]? = w.heap[k]? := by
    intro k hk
    refine hgrow.block k (hacc.fresh.2 k hk).2 ?_
    intro e1
    cases hA : A with
    | none => rw [hA] at e1; simp at e1
    | some a0 =>
      rw [hA] at e1
      simp at e1
      exact hacc.out a0 hA (e1 ▸ hk)
  have hkeep2 : ∀ k, k ∈ b2 → w'.heap[k]? = w.heap[k]? := by
    intro k hk
    refine hgrow.block k (hf2.2 k hk).2 ?_
    intro e1
    cases hA : A with
    | none => rw [hA] at e1; simp at e1
    | some a0 =>
      rw [hA] at e1
      simp at e1
      exact (hd2 k hk).2 a0 hA e1.symm
  refine h _ _ _ ⟨by rw [List.length_append, ← hacc.len, hm], ⟨_, hown', (he.keep hkeep).join (hels.keep hkeep2)⟩, ?_, ?_⟩ hgrow hnew
  · refine Fresh.more ⟨List.nodup_append.2 ⟨hacc.fresh.1, hf2.1, fun g hg g' hg' e1 => (hd2 g' hg').1 (e1 ▸ hg)⟩, fun g hg => ?_⟩ hgrow.size
    rcases List.mem_append.1 hg with hg | hg
    · exact hacc.fresh.2 g hg
    · exact hf2.2 g hg
  · intro a' ha' hk
    rcases List.mem_append.1 hk with hk | hk
    · rcases hnew a' ha' with hA | hge
      · exact hacc.out a' hA hk
      · have := (hacc.fresh.2 _ hk).2; omega
    · rcases hnew a' ha' with hA | hge
      · exact (hd2 _ hk).2 a' hA rfl
      · have := (hf2.2 _ hk).2; omega
end Go.Proofs.Ytpknkaidmefenaa
