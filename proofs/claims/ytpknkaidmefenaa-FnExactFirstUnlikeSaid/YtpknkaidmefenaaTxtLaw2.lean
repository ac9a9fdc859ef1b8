/-
  The program's search: a list of what has been met, with the place ahead and the letter; the word read back. Conditions: those in each statement.
-/
import Derived.Test.YtpknkaidmefenaaFstRev
import Derived.Test.YtpknkaidmefenaaMapSet
import Derived.Test.YtpknkaidmefenaaCat
import Derived.Laws.IdiomStrings
set_option linter.unusedVariables false
set_option linter.unusedSimpArgs false
set_option maxRecDepth 100000
set_option maxHeartbeats 1000000
namespace Go.Proofs.Ytpknkaidmefenaa
open Go.RowKit

/-- One entry of the list. -/
structure Fd where
  x1 : Int
  x2 : Int
  before : Int
  letter : Int
instance : Cod Fd := ⟨4, fun _ _ z cs => cs = [.int .i64 z.x1, .int .i64 z.x2, .int .i64 z.before, .int .i64 z.letter], fun h => by simp [h], fun _ h => h, fun _ h => h,
  fun _ z cs bs => cs = [.int .i64 z.x1, .int .i64 z.x2, .int .i64 z.before, .int .i64 z.letter] ∧ bs = [], fun _ h => h, fun h _ => h.1, by decide, fun _ => 4, fun _ => 0, fun _ z => z⟩
theorem RdS.fd {w : World} {B : Nat} {A : Option Addr} {k : Nat} {xs : List Fd} (h : RdS w B A xs) {x : Fd} (hx : xs[k]? = some x) :
    ∃ b o, A = some ⟨b, o, none⟩ ∧ b < B ∧ w.cell? ⟨b, o + k * 4, none⟩ = some (.int .i64 x.x1) ∧ w.cell? ⟨b, o + k * 4 + 1, none⟩ = some (.int .i64 x.x2) ∧ w.cell? ⟨b, o + k * 4 + 2, none⟩ = some (.int .i64 x.before) ∧ w.cell? ⟨b, o + k * 4 + 3, none⟩ = some (.int .i64 x.letter) := by
  obtain ⟨b, o, cs, e, hb, rfl, hc⟩ := h k x hx
  exact ⟨b, o, e, hb, by simpa [Cod.size] using hc 0 _ rfl, by simpa [Cod.size, Nat.add_assoc] using hc 1 _ rfl, by simpa [Cod.size, Nat.add_assoc] using hc 2 _ rfl, by simpa [Cod.size, Nat.add_assoc] using hc 3 _ rfl⟩
/-- A letter as a byte. -/
structure By where
  a : Nat
instance : Cod By := ⟨1, fun _ _ z cs => cs = [.int .u8 (97 + (z.a : Int))], fun h => by simp [h], fun _ h => h, fun _ h => h, fun _ z cs bs => cs = [.int .u8 (97 + (z.a : Int))] ∧ bs = [], fun _ h => h, fun h _ => h.1, by decide, fun _ => 1, fun _ => 0, fun _ z => z⟩
def yL (ls : List Nat) : List By := ls.map By.mk
theorem yL_snoc (ls : List Nat) (a : Nat) : yL (ls ++ [a]) = yL ls ++ [⟨a⟩] := by simp [yL]
theorem Els_by {w : World} : ∀ {ls : List Nat} {cs : List Value} {bs : List Nat}, Els w (yL ls) cs bs → cs = ls.map (fun (a : Nat) => Value.int .u8 (97 + (a : Int))) ∧ bs = []
  | [], _, _, h => h
  | a :: ls, _, _, ⟨c1, c2, b1, b2, e1, e2, h1, h2⟩ => by
    obtain ⟨rfl, rfl⟩ := Els_by (ls := ls) h2
    obtain ⟨rfl, rfl⟩ := h1
    exact ⟨e1, e2⟩
theorem by_blk {w : World} {B : Nat} {e : TypeId} {g n c : Nat} {ls : List Nat} (h : Acc w B e (some ⟨g, 0, none⟩) n c (yL ls) []) : ByBlk w g e n (fun j => ls.getD j 0) := by
  obtain ⟨cs, ⟨o1, o2⟩, he⟩ := h.cells
  obtain ⟨rfl, -⟩ := Els_by he
  have hlen : n = ls.length := by have := h.len; simpa [yL] using this
  rcases o2 with ⟨hv, hz⟩ | ⟨G, cap, cur, hv, hB, hg, hnc, hcm, hcur, htake⟩
  · injection hv with h1 _ _; cases h1
  · injection hv with h1 _ _
    injection h1 with h1
    injection h1 with h1 _ _
    subst h1
    refine ⟨cur, hg, fun j hj => ?_⟩
    have h1 : (cur.toList.take (n * Cod.size By))[j]? = some (Value.int .u8 (97 + ((ls.getD j 0 : Nat) : Int))) := by
      rw [htake, List.getElem?_map, List.getElem?_eq_getElem (by omega)]
      simp [List.getD_eq_getElem?_getD, List.getElem?_eq_getElem (show j < ls.length by omega)]
    rw [List.getElem?_take] at h1
    split at h1
    · simpa using h1
    · cases h1
theorem acc_some {α : Type} [Cod α] {w : World} {B : Nat} {e : TypeId} {A : Option Addr} {n c : Nat} {xs : List α} {bs : List Nat} (h : Acc w B e A (n + 1) c xs bs) : ∃ g, A = some ⟨g, 0, none⟩ := by
  obtain ⟨cs, ⟨o1, o2⟩, he⟩ := h.cells
  rcases o2 with ⟨_, hz⟩ | ⟨G, cap, cur, hv, _⟩
  · cases hz
  · injection hv with h1 _ _
    exact ⟨G, h1⟩
/-- The bytes as a string. -/
theorem conv_word {u ls : List Nat} {n c g : Nat} (hu : u = ls.reverse) (hn : ls.length = n) (h3 : ∀ a ∈ u, a < 3) (W : World) (h : ByBlk W g 5 n (fun j => ls.getD (n - 1 - j) 0)) :
    (convert 85 9 (.slice (some ⟨g, 0, none⟩) n c)).run Try.prog W = .ok (.string (wstr u)) W := by
  have hl : (wbs u).length = n := by simp [wbs, hu, hn]
  have := run_convert_bytes_back (P := Try.prog) W 85 9 5 ⟨g, 0, none⟩ c (wbs u) Try.underlying85 Try.underlying5 Try.underlying9 (fun j hj => by
    rw [add_lit, Nat.zero_add, h.cell (by omega)]
    have h1 : j < u.length := by simpa [wbs] using hj
    have h2 : ls.getD (n - 1 - j) 0 = u[j] := by
      subst hu
      rw [List.getElem_reverse, List.getD_eq_getElem?_getD, List.getElem?_eq_getElem (by simp at h1; omega)]
      simp [hn]
    have h4 := h3 u[j] (List.getElem_mem h1)
    rw [h2]
    have h5 : (wbs u)[j] = UInt8.ofNat (97 + u[j]) := by simp [wbs]
    rw [h5]
    have h6 : (UInt8.ofNat (97 + u[j])).toNat = 97 + u[j] := by simp; omega
    rw [h6]
    simp)
  rw [hl] at this
  exact this

/-- What the list says of the words. -/
def BackOk (L : Nat) (nodes : List (Nat × Nat)) (words : List (List Nat)) (fds : List Fd) : Prop := fds.length = nodes.length ∧ ∀ (j : Nat) (x : Nat × Nat) (u : List Nat), nodes[j]? = some x → words[j]? = some u →
  ∃ f : Fd, fds[j]? = some f ∧ f.x1 = (x.1 : Int) ∧ f.x2 = (x.2 : Int) ∧ ((f.before = -1 ∧ u = []) ∨ ∃ (p a : Nat) (v : List Nat), p < j ∧ f.before = (p : Int) ∧ f.letter = (a : Int) ∧ a < L ∧ words[p]? = some v ∧ u = v ++ [a])
theorem BackOk.start (L : Nat) (x : Nat × Nat) : BackOk L [x] [[]] [⟨x.1, x.2, -1, 0⟩] := ⟨rfl, fun j y u hy hu => by
  cases j with
  | zero =>
    obtain rfl : x = y := by simpa using hy
    obtain rfl : [] = u := by simpa using hu
    exact ⟨_, rfl, rfl, rfl, .inl ⟨rfl, rfl⟩⟩
  | succ j => simp at hy⟩
theorem BackOk.snoc {L : Nat} {nodes : List (Nat × Nat)} {words : List (List Nat)} {fds : List Fd} (h : BackOk L nodes words fds) (hlen : words.length = nodes.length) {i a : Nat} {u : List Nat} (hu : words[i]? = some u) (ha : a < L) (x : Nat × Nat) :
    BackOk L (nodes ++ [x]) (words ++ [u ++ [a]]) (fds ++ [⟨x.1, x.2, i, a⟩]) := by
  have hil := (List.getElem?_eq_some_iff.1 hu).1
  refine ⟨by simp [h.1], fun j y v hy hv => ?_⟩
  rcases Nat.lt_or_ge j nodes.length with hj | hj
  · rw [List.getElem?_append_left hj] at hy
    rw [List.getElem?_append_left (by omega)] at hv
    obtain ⟨f, h1, h2, h3, h4⟩ := h.2 j y v hy hv
    refine ⟨f, by rw [List.getElem?_append_left (by rw [h.1]; exact hj)]; exact h1, h2, h3, ?_⟩
    rcases h4 with h4 | ⟨p, b, z, g1, g2, g3, g4, g5, g6⟩
    · exact .inl h4
    · exact .inr ⟨p, b, z, g1, g2, g3, g4, by rw [List.getElem?_append_left (by omega)]; exact g5, g6⟩
  · rw [List.getElem?_append_right hj] at hy
    have h1 := (List.getElem?_eq_some_iff.1 hy).1
    have h2 : j = nodes.length := by simp at h1; omega
    subst h2
    rw [List.getElem?_append_right (by omega), hlen, Nat.sub_self] at hv
    rw [Nat.sub_self] at hy
    obtain rfl : x = y := by simpa using hy
    obtain rfl : u ++ [a] = v := by simpa using hv
    exact ⟨⟨x.1, x.2, i, a⟩, by rw [List.getElem?_append_right (by rw [h.1]; exact Nat.le_refl _), h.1]; simp, rfl, rfl, .inr ⟨i, a, u, by omega, rfl, rfl, ha, by rw [List.getElem?_append_left hil]; exact hu, rfl⟩⟩

theorem SetAt.keep {w w' : World} {b : Nat} {nodes : List (Int × Int)} (h : SetAt w b nodes) (hk : w'.heap[b]? = w.heap[b]?) : SetAt w' b nodes := by
  obtain ⟨es, clock, h1, h2, h3⟩ := h
  exact ⟨es, clock, hk.trans h1, h2, h3⟩
theorem SetAt.lt {w : World} {b : Nat} {nodes : List (Int × Int)} (h : SetAt w b nodes) : b < w.heap.size := by
  obtain ⟨es, clock, h1, _⟩ := h
  exact (Array.getElem?_eq_some_iff.1 h1).1
theorem SetAt.empty_ {X : World} {g : Nat} (hg : g = X.heap.size) : SetAt (X.alloc (.map #[] 0)) g [] := ⟨#[], 0, new_block hg, rfl, by simp⟩
/-- The first pair. -/
theorem SetAt.first {W : World} {g : Nat} (h : SetAt W g []) {x y : Nat} (hx : x < 1000) (hy : y < 1000) : ∃ w', (Instr.mapUpdate 111 (.map (some g)) (.agg #[.int .i64 (x : Int), .int .i64 (y : Int)]) (.bool true)).run Try.prog W = .ok () w' ∧ SetAt w' g [((x : Int), (y : Int))] ∧ OnlyB [g] W w' :=
  h.put (x := ((x : Int), (y : Int))) (fun y hy => by simp at hy) ⟨⟨by simp only; omega, by simp only; omega⟩, ⟨by simp only; omega, by simp only; omega⟩⟩ (by simp)
/-- The memory of the program's search. -/
structure TMem (w : World) (tF : TypeId) (gm : Nat) (wr : World) (M1 : Option Addr) (k1 m1 : Nat) (fds : List Fd) (nodes : List (Nat × Nat)) : Prop where
  acc : Acc wr (w.heap.size + 1) tF M1 k1 m1 fds []
  set : SetAt wr gm (pL nodes)
  ne : ∀ a, M1 = some a → a.block ≠ gm
  low : w.heap.size < gm
  since : Below w.heap.size w wr
section
variable {w wr w' : World} {tF : TypeId} {gm : Nat} {M1 D : Option Addr} {k1 m1 k' d : Nat} {fds fds' : List Fd} {nodes : List (Nat × Nat)}
theorem TMem.below (h : TMem w tF gm wr M1 k1 m1 fds nodes) (hb : Below wr.heap.size wr w') : TMem w tF gm w' M1 k1 m1 fds nodes :=
  ⟨h.acc.below hb (Nat.le_refl _), h.set.keep (hb.block _ h.set.lt), h.ne, h.low, h.since.trans (hb.mono h.since.size)⟩
theorem TMem.put (h : TMem w tF gm wr M1 k1 m1 fds nodes) {x : Nat × Nat} (hs : SetAt w' gm (pL nodes ++ [((x.1 : Int), (x.2 : Int))])) (ho : OnlyB [gm] wr w') : TMem w tF gm w' M1 k1 m1 fds (nodes ++ [x]) :=
  ⟨h.acc.keep (fun a ha => ho.block _ (h.acc.lt a ha).2 (by simpa using h.ne a ha)) (fun g hg => by simp at hg) ho.size, by rw [pL_snoc]; exact hs, h.ne, h.low, h.since.trans (ho.below (fun g hg => by (obtain rfl := List.mem_singleton.1 hg); have := h.low; omega) h.since.size)⟩
theorem TMem.push (h : TMem w tF gm wr M1 k1 m1 fds nodes) (hacc : Acc w' (w.heap.size + 1) tF D k' d fds' []) (hgr : wr.grownBy w' (M1.map (·.block))) (hnew : ∀ a, D = some a → M1 = some a ∨ wr.heap.size ≤ a.block) : TMem w tF gm w' D k' d fds' nodes :=
  ⟨hacc, h.set.keep (grown_block hgr h.set.lt h.ne), fun a ha e => (hnew a ha).elim (fun h1 => h.ne a h1 e) (fun h1 => by have := h.set.lt; omega), h.low, h.acc.since hgr h.since (by omega) h.since.size⟩
end
theorem pairOk_pL {n m : Nat} {nodes : List (Nat × Nat)} (h : PrOk n m nodes) (hn : n ≤ 300) (hm : m ≤ 300) : ∀ y ∈ pL nodes, PairOk y := fun y hy => by
  obtain ⟨x, hx, rfl⟩ := List.mem_map.1 hy
  obtain ⟨h1, h2⟩ := h.lt x hx
  exact ⟨⟨by simp only; omega, by simp only; omega⟩, ⟨by simp only; omega, by simp only; omega⟩⟩
theorem mem_pL {nodes : List (Nat × Nat)} {x : Nat × Nat} : ((x.1 : Int), (x.2 : Int)) ∈ pL nodes ↔ x ∈ nodes := by
  unfold pL
  rw [List.mem_map]
  refine ⟨fun ⟨y, hy, e⟩ => ?_, fun h => ⟨x, h, rfl⟩⟩
  injection e with e1 e2
  have : y = x := Prod.ext (by omega) (by omega)
  exact this ▸ hy
end Go.Proofs.Ytpknkaidmefenaa
