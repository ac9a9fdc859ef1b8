/-
  append of a whole list of leaves to a slice that the call builds; rows pushed to a list of rows. No program in sight. Conditions: those in each statement.
-/
import Derived.Test.YtpknkaidmefenaaAcc
set_option linter.unusedVariables false
set_option linter.unusedSimpArgs false
set_option maxRecDepth 100000
set_option maxHeartbeats 1000000
namespace Go.Proofs.Ytpknkaidmefenaa
open Go.RowKit

/-- append(s, x...): x reads as leaves. -/
theorem wpList_cat {α : Type} [Cod α] {P : Program} (w : World) {ops : Array Oper} {rest : List Oper} {o : Oper} {a : Act} {Q : Exit → Act → World → Prop} (hgd : o.guard = none) (s x : Operand) (t : TypeId)
    (ho : o.op = .call { callee := .builtin .append, args := #[s, x], argTypes := #[t, t] })
    (B : Nat) (e : TypeId) (z : Value) (bytes : Nat) (ht : P.underlying t = some (.slice e)) (hinfo : (P.info? e).map (fun i => (i.zero, i.size, i.bytes)) = some (some z, Cod.size α, bytes)) (hzs : z.cells.size = Cod.size α)
    (A : Option Addr) (n c : Nat) (xs : List α) (bs : List Nat) (hs : a.eval s = .slice A n c) (hacc : Acc w B e A n c xs bs)
    (ad : Addr) (m cp : Nat) (hx : a.eval x = .slice (some ad) m cp) (ys : List α) (hm : ys.length = m) (news : List Value) (hels : ∀ w', Els w' ys news []) (hnews : ∀ j u, news[j]? = some u → w.cell? (ad.add j) = some u) (h1 : ∀ u ∈ news, u.oneCell' = true)
    (hpos : 0 < n + m) (h63 : n + m ≤ 9223372036854775807) (hbytes : (n + m) * bytes ≤ 140737488355328) (hbase : B ≤ w.heap.size)
    (h : ∀ A' c' w', Acc w' B e A' (n + m) c' (xs ++ ys) bs → w.grownBy w' (A.map (·.block)) → (∀ a', A' = some a' → A = some a' ∨ w.heap.size ≤ a'.block) → wpList P ops Q rest (a.put o.dst (.slice A' (n + m) c')) w') : wpList P ops Q (o :: rest) a w := by
  obtain ⟨i0, hi, hz0, hz1, hz2⟩ := info_parts hinfo
  obtain ⟨cs, hown, he⟩ := hacc.cells
  have hlen : news.length = m * Cod.size α := by rw [(hels w).len, hm]
  refine wpList_append_own_at w hgd s x t ho B e i0 z (Cod.size α) bytes ht hi hz0 hz1 hz2 hzs Cod.pos (.slice A n c) n cs hs hown ad m cp news hx hlen hnews h1 (by simp only [maxLen]; omega) hbytes hbase ?_
  intro v' w' hown' hgrow _ hat
  obtain ⟨g', cap, rfl, hB', hlt'⟩ := hown'.form (by omega)
  have hrow : (Value.slice A n c).ownBlock = A.map (·.block) := by cases A <;> rfl
  rw [hrow] at hgrow hat
  have hnew : ∀ a', (some (⟨g', 0, none⟩ : Addr)) = some a' → A = some a' ∨ w.heap.size ≤ a'.block := by
    intro a' ha'
    obtain rfl : (⟨g', 0, none⟩ : Addr) = a' := by injection ha'
    rcases hat with e1 | e1
    · left
      rcases hown.2 with ⟨hv, _⟩ | ⟨g0, cap0, cur0, hv, _⟩
      · have : A = none := by injection hv
        rw [this] at e1
        simp [Value.ownBlock] at e1
      · have hA : A = some ⟨g0, 0, none⟩ := by injection hv
        rw [hA] at e1 ⊢
        simp [Value.ownBlock] at e1
        rw [e1]
    · right
      simp [Value.ownBlock] at e1
      show w.heap.size ≤ g'
      omega
  have hkeep : ∀ k, k ∈ bs → w'.heap[k]? = w.heap[k]? := by
    intro k hk
    refine hgrow.block k (hacc.fresh.2 k hk).2 ?_
    intro e1
    cases hA : A with
    | none => rw [hA] at e1; simp at e1
    | some a0 =>
      rw [hA] at e1
      simp at e1
      exact hacc.out a0 hA (e1 ▸ hk)
  refine h _ _ _ ⟨by rw [List.length_append, ← hacc.len, hm], ⟨_, hown', by have := (he.keep hkeep).join (hels w'); rwa [List.append_nil] at this⟩, hacc.fresh.more hgrow.size, ?_⟩ hgrow hnew
  intro a' ha' hk
  rcases hnew a' ha' with hA | hge
  · exact hacc.out a' hA hk
  · have := (hacc.fresh.2 _ hk).2; omega

/-- append(s, x...) as a step of a region that draws its order. -/
theorem step_cat {α : Type} [Cod α] {P : Program} (w : World) {ops : Array Oper} {o : Oper} {a : Act} {K : Act → World → Prop} {Q : Exit → Act → World → Prop} {E : Prop} (hgd : o.guard = none) (s x : Operand) (t : TypeId)
    (ho : o.op = .call { callee := .builtin .append, args := #[s, x], argTypes := #[t, t] })
    (B : Nat) (e : TypeId) (z : Value) (bytes : Nat) (ht : P.underlying t = some (.slice e)) (hinfo : (P.info? e).map (fun i => (i.zero, i.size, i.bytes)) = some (some z, Cod.size α, bytes)) (hzs : z.cells.size = Cod.size α)
    (A : Option Addr) (n c : Nat) (xs : List α) (bs : List Nat) (hs : a.eval s = .slice A n c) (hacc : Acc w B e A n c xs bs)
    (ad : Addr) (m cp : Nat) (hx : a.eval x = .slice (some ad) m cp) (ys : List α) (hm : ys.length = m) (news : List Value) (hels : ∀ w', Els w' ys news []) (hnews : ∀ j u, news[j]? = some u → w.cell? (ad.add j) = some u) (h1 : ∀ u ∈ news, u.oneCell' = true)
    (hpos : 0 < m) (h63 : n + m ≤ 9223372036854775807) (hbytes : (n + m) * bytes ≤ 140737488355328) (hbase : B ≤ w.heap.size)
    (h : ∀ A' c' w', Acc w' B e A' (n + m) c' (xs ++ ys) bs → w.grownBy w' (A.map (·.block)) → (∀ a', A' = some a' → A = some a' ∨ w.heap.size ≤ a'.block) → K (a.put o.dst (.slice A' (n + m) c')) w') :
    if Region.wanted o (yielded ops a.tmps) = true then Oper.wp P o a w K Q else E := by
  obtain ⟨i0, hi, hz0, hz1, hz2⟩ := info_parts hinfo
  obtain ⟨cs, hown, he⟩ := hacc.cells
  have hlen : news.length = m * Cod.size α := by rw [(hels w).len, hm]
  refine step_append_lies (w := w) hgd s x t ho B e i0 z (Cod.size α) bytes ht hi hz0 hz1 hz2 hzs Cod.pos (.slice A n c) n cs hs hown ad m cp news hx hlen hnews h1 hpos (by simp only [maxLen]; omega) hbytes hbase w.heap.size rfl ?_
  intro g' cap w' hown' hgrow hat hlt'
  have hrow : (Value.slice A n c).ownBlock = A.map (·.block) := by cases A <;> rfl
  rw [hrow] at hgrow hat
  have hnew : ∀ a', (some (⟨g', 0, none⟩ : Addr)) = some a' → A = some a' ∨ w.heap.size ≤ a'.block := by
    intro a' ha'
    obtain rfl : (⟨g', 0, none⟩ : Addr) = a' := by injection ha'
    rcases hat with e1 | e1
    · left
      rcases hown.2 with ⟨hv, _⟩ | ⟨g0, cap0, cur0, hv, _⟩
      · have : A = none := by injection hv
        rw [this] at e1
        simp at e1
      · have hA : A = some ⟨g0, 0, none⟩ := by injection hv
        rw [hA] at e1 ⊢
        simp at e1
        rw [e1]
    · right
      show w.heap.size ≤ g'
      omega
  have hkeep : ∀ k, k ∈ bs → w'.heap[k]? = w.heap[k]? := by
    intro k hk
    refine hgrow.block k (hacc.fresh.2 k hk).2 ?_
    intro e1
    cases hA : A with
    | none => rw [hA] at e1; simp at e1
    | some a0 =>
      rw [hA] at e1
      simp at e1
      exact hacc.out a0 hA (e1 ▸ hk)
  refine h _ _ _ ⟨by rw [List.length_append, ← hacc.len, hm], ⟨_, hown', by have := (he.keep hkeep).join (hels w'); rwa [List.append_nil] at this⟩, hacc.fresh.more hgrow.size, ?_⟩ hgrow hnew
  intro a' ha' hk
  rcases hnew a' ha' with hA | hge
  · exact hacc.out a' hA hk
  · have := (hacc.fresh.2 _ hk).2; omega

section
variable {w : World} {B : Nat} {A : Option Addr}
theorem Els_bools {w : World} : ∀ xs : List Bool, Els w xs (xs.map Value.bool) []
  | [] => ⟨rfl, rfl⟩
  | x :: xs => ⟨[.bool x], xs.map Value.bool, [], [], rfl, rfl, ⟨rfl, rfl⟩, Els_bools xs⟩
theorem Els_nums {w : World} : ∀ xs : List Int, Els w xs (xs.map (Value.int .i64)) []
  | [] => ⟨rfl, rfl⟩
  | x :: xs => ⟨[.int .i64 x], xs.map (Value.int .i64), [], [], rfl, rfl, ⟨rfl, rfl⟩, Els_nums xs⟩
theorem add_lit (b o j : Nat) : (⟨b, o, none⟩ : Addr).add j = ⟨b, o + j, none⟩ := by unfold Addr.add; split <;> simp_all
/-- Where all of a list that is not empty lies. -/
theorem RdS.bools {xs : List Bool} (h : RdS w B A xs) (hn : 0 < xs.length) : ∃ b o, A = some ⟨b, o, none⟩ ∧ b < B ∧ ∀ j u, (xs.map Value.bool)[j]? = some u → w.cell? ((⟨b, o, none⟩ : Addr).add j) = some u := by
  obtain ⟨x0, hx0⟩ := get_some hn
  obtain ⟨b, o, e, hb, _⟩ := h.bool hx0
  refine ⟨b, o, e, hb, fun j u hu => ?_⟩
  rw [List.getElem?_map] at hu
  cases hx : xs[j]? with
  | none => rw [hx] at hu; simp at hu
  | some x =>
    rw [hx] at hu
    simp at hu
    subst hu
    obtain ⟨b', o', e', _, hc⟩ := h.bool hx
    rw [e] at e'
    injection e' with e'
    injection e' with e1 e2
    subst e1; subst e2
    rw [add_lit]
    exact hc
theorem RdS.nums {xs : List Int} (h : RdS w B A xs) (hn : 0 < xs.length) : ∃ b o, A = some ⟨b, o, none⟩ ∧ b < B ∧ ∀ j u, (xs.map (Value.int .i64))[j]? = some u → w.cell? ((⟨b, o, none⟩ : Addr).add j) = some u := by
  obtain ⟨x0, hx0⟩ := get_some hn
  obtain ⟨b, o, e, hb, _⟩ := h.int hx0
  refine ⟨b, o, e, hb, fun j u hu => ?_⟩
  rw [List.getElem?_map] at hu
  cases hx : xs[j]? with
  | none => rw [hx] at hu; simp at hu
  | some x =>
    rw [hx] at hu
    simp at hu
    subst hu
    obtain ⟨b', o', e', _, hc⟩ := h.int hx
    rw [e] at e'
    injection e' with e'
    injection e' with e1 e2
    subst e1; subst e2
    rw [add_lit]
    exact hc
end

/-- A list that the call has built as the element of a list of lists. -/
theorem Acc.row {α : Type} [Cod α] {w : World} {B : Nat} {e : TypeId} {A : Option Addr} {n c : Nat} {xs : List α} {bs : List Nat} (h : Acc w B e A n c xs bs) (hn : n ≤ 9223372036854775807) : ∃ b2, Cod.own w xs [.slice A n c] b2 ∧ Fresh B w b2 := by
  obtain ⟨b2, o, f, _⟩ := h.own
  have := h.len
  subst this
  exact ⟨b2, ⟨A, c, rfl, hn, o⟩, f⟩
/-- All blocks of a list that was built before B lie below B. -/
theorem Acc.apart {α : Type} [Cod α] {w w1 : World} {B B' : Nat} {e : TypeId} {A : Option Addr} {n c : Nat} {xs : List α} {bs b1 : List Nat} (h : Acc w B e A n c xs bs) (hf : Fresh B' w1 b1) (hB : w.heap.size ≤ B') : ∀ k ∈ b1, k ∉ bs ∧ ∀ a, A = some a → a.block ≠ k := fun k hk =>
  ⟨fun hm => by have := (h.fresh.2 k hm).2; have := (hf.2 k hk).1; omega, fun a ha e => by have := (h.lt a ha).2; have := (hf.2 k hk).1; omega⟩
/-- A fresh one-element slice. -/
theorem own_one {w : World} {g : Nat} {t : TypeId} {x : Int} (h : w.heap[g]? = some (.cells #[.int .i64 x] t (0, 0))) : Cod.own w [x] [.slice (some ⟨g, 0, none⟩) 1 1] [g] :=
  ⟨_, 1, rfl, by simp, OwnS.of (m := 1) h ⟨[.int .i64 x], [], [], [], rfl, rfl, ⟨rfl, rfl⟩, rfl, rfl⟩⟩
theorem OnlyB.tail {bs : List Nat} {a b c : World} (h : OnlyB bs a b) (hb : Below a.heap.size b c) : OnlyB bs a c :=
  ⟨hb.os.trans h.os, hb.tape.trans h.tape, hb.output.trans h.output, Nat.le_trans h.size hb.size, fun g hg hn => (hb.block g hg).trans (h.block g hg hn)⟩
theorem grown_cells {w w' : World} {rb : Nat} (h : w.grownBy w' ((some (⟨rb, 0, none⟩ : Addr)).map (·.block))) :
    (∀ n o, n < w.heap.size → n ≠ rb → w'.cell? ⟨n, o, none⟩ = w.cell? ⟨n, o, none⟩) ∧ (∀ n o, n < w.heap.size → n ≠ rb → w'.frozen? ⟨n, o, none⟩ = w.frozen? ⟨n, o, none⟩) :=
  ⟨fun n o h1 h2 => h.cell_far ⟨n, o, none⟩ h1 (by intro e; simp at e; exact h2 e), fun n o h1 h2 => h.frozen_far ⟨n, o, none⟩ h1 (by intro e; simp at e; exact h2 e)⟩
theorem own_at {rb n0 : Nat} {D : Option Addr} {b2 : List Nat} (hnew : ∀ a', D = some a' → (some (⟨rb, 0, none⟩ : Addr)) = some a' ∨ n0 ≤ a'.block) (hm : ∀ g ∈ b2, (∃ a, D = some a ∧ a.block = g) ∨ g ∈ ([] : List Nat)) : ∀ g ∈ b2, g = rb ∨ n0 ≤ g := fun g hg => by
  rcases hm g hg with ⟨a, ha, rfl⟩ | h
  · rcases hnew a ha with h1 | h1
    · injection h1 with h1
      subst h1
      exact .inl rfl
    · exact .inr h1
  · simp at h
theorem heap_drew (w : World) : w.drew.heap = w.heap := rfl
theorem arr3 {cur : Array Value} {a b c : Value} (hs : cur.size = 3) : ((cur.setIfInBounds 0 a).setIfInBounds 1 b).setIfInBounds 2 c = #[a, b, c] := by
  obtain ⟨l⟩ := cur
  match l, hs with
  | [_, _, _], _ => rfl
theorem arr4 {cur : Array Value} {a b c d : Value} (hs : cur.size = 4) : (((cur.setIfInBounds 0 a).setIfInBounds 1 b).setIfInBounds 2 c).setIfInBounds 3 d = #[a, b, c, d] := by
  obtain ⟨l⟩ := cur
  match l, hs with
  | [_, _, _, _], _ => rfl
theorem blk_fill3 {w : World} {g : Nat} {t : TypeId} {cur : Array Value} {a b c : Value} (h : w.heap[g]? = some (.cells cur t (0, 0))) (hs : cur.size = 3) :
    (((w.setCell ⟨g, 0, none⟩ a).setCell ⟨g, 1, none⟩ b).setCell ⟨g, 2, none⟩ c).heap[g]? = some (.cells #[a, b, c] t (0, 0)) := by
  rw [blk_set (blk_set (blk_set h _) _) _, arr3 hs]
theorem blk_fill4 {w : World} {g : Nat} {t : TypeId} {cur : Array Value} {a b c d : Value} (h : w.heap[g]? = some (.cells cur t (0, 0))) (hs : cur.size = 4) :
    ((((w.setCell ⟨g, 0, none⟩ a).setCell ⟨g, 1, none⟩ b).setCell ⟨g, 2, none⟩ c).setCell ⟨g, 3, none⟩ d).heap[g]? = some (.cells #[a, b, c, d] t (0, 0)) := by
  rw [blk_set (blk_set (blk_set (blk_set h _) _) _) _, arr4 hs]
end Go.Proofs.Ytpknkaidmefenaa
