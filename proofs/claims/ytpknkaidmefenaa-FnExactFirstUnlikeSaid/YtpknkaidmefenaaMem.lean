/-
  Plain words for memory: how lists lie in slices, which blocks a fresh value owns. No program in sight. Conditions: none.
-/
import Derived.WalkKit
import Derived.Lib.Hide
import Derived.Deep.Draws
set_option linter.unusedVariables false
set_option linter.unusedSimpArgs false
set_option maxRecDepth 100000
set_option maxHeartbeats 1000000
namespace Go.Proofs.Ytpknkaidmefenaa
open Go.RowKit

/-- How a Lean value lies in memory as one element of a slice: 'rd': it reads so, from cells below block B; 'own': it reads so, and the blocks bs that it is made of are known whole. 'tot': how many elements it holds; 'cnt', 'mark': how many numbers its marking counts, and what the marking from k on makes of it. -/
class Cod (α : Type) where
  size : Nat
  rd : World → Nat → α → List Value → Prop
  len : ∀ {w B x cs}, rd w B x cs → cs.length = size
  keep : ∀ {w w' : World} {B x cs}, (∀ p : Addr, p.block < B → w'.cell? p = w.cell? p) → rd w B x cs → rd w' B x cs
  more : ∀ {w : World} {B B' x cs}, B ≤ B' → rd w B x cs → rd w B' x cs
  own : World → α → List Value → List Nat → Prop
  own_keep : ∀ {w w' : World} {x cs bs}, (∀ g ∈ bs, w'.heap[g]? = w.heap[g]?) → own w x cs bs → own w' x cs bs
  own_rd : ∀ {w : World} {x cs bs B}, own w x cs bs → (∀ g ∈ bs, g < B) → rd w B x cs
  pos : 0 < size
  cnt : α → Nat
  tot : α → Nat
  mark : Nat → α → α

section
variable {α : Type} [Cod α]
/-- A slice value '.slice A xs.length c' that reads as the list xs. -/
def RdS (w : World) (B : Nat) (A : Option Addr) (xs : List α) : Prop :=
  ∀ (k : Nat) (x : α), xs[k]? = some x → ∃ b o cs, A = some ⟨b, o, none⟩ ∧ b < B ∧ Cod.rd w B x cs ∧
    ∀ j u, cs[j]? = some u → w.cell? ⟨b, o + (k * Cod.size α + j), none⟩ = some u

variable {w w' : World} {B B' : Nat} {A : Option Addr} {xs : List α}
theorem RdS.keep (h : RdS w B A xs) (hk : ∀ p : Addr, p.block < B → w'.cell? p = w.cell? p) : RdS w' B A xs := fun k x hx => by
  obtain ⟨b, o, cs, e, hb, hr, hc⟩ := h k x hx
  exact ⟨b, o, cs, e, hb, Cod.keep hk hr, fun j u hu => (hk _ hb).trans (hc j u hu)⟩
theorem RdS.more (h : RdS w B A xs) (hB : B ≤ B') : RdS w B' A xs := fun k x hx => by
  obtain ⟨b, o, cs, e, hb, hr, hc⟩ := h k x hx
  exact ⟨b, o, cs, e, Nat.lt_of_lt_of_le hb hB, Cod.more hB hr, hc⟩
theorem RdS.below (h : RdS w B A xs) {C : Nat} (hb : Below C w w') (hBC : B ≤ C) : RdS w' B A xs := h.keep fun _ hp => hb.cell (Nat.lt_of_lt_of_le hp hBC)
theorem RdS.nil_ : RdS w B A ([] : List α) := fun k x hx => by simp at hx

/-- The elements, one behind the other, and the blocks that they are made of. -/
def Els (w : World) : List α → List Value → List Nat → Prop
  | [], cs, bs => cs = [] ∧ bs = []
  | x :: xs, cs, bs => ∃ c1 c2 b1 b2, cs = c1 ++ c2 ∧ bs = b1 ++ b2 ∧ Cod.own w x c1 b1 ∧ Els w xs c2 b2

/-- The slice value '.slice A xs.length c' owns what it reads as; bs: all its blocks. -/
def OwnS (w : World) (A : Option Addr) (xs : List α) (bs : List Nat) : Prop :=
  (xs = [] ∧ bs = []) ∨ ∃ g t cur cs b2, A = some ⟨g, 0, none⟩ ∧ w.heap[g]? = some (.cells cur t (0, 0)) ∧ cur.toList.take cs.length = cs ∧ Els w xs cs b2 ∧ bs = g :: b2

theorem bound_list : ∀ bs : List Nat, ∃ B, ∀ g ∈ bs, g < B
  | [] => ⟨0, fun g hg => by simp at hg⟩
  | b :: bs => by
    obtain ⟨B, h⟩ := bound_list bs
    refine ⟨B + b + 1, fun g hg => ?_⟩
    rcases List.mem_cons.1 hg with e | hg
    · omega
    · have := h g hg; omega
theorem own_len {x : α} {cs : List Value} {bs : List Nat} (h : Cod.own w x cs bs) : cs.length = Cod.size α := by
  obtain ⟨B, hB⟩ := bound_list bs
  exact Cod.len (Cod.own_rd (B := B) h hB)

theorem Els.keep : ∀ {xs : List α} {cs bs}, Els w xs cs bs → (∀ g ∈ bs, w'.heap[g]? = w.heap[g]?) → Els w' xs cs bs
  | [], _, _, h, _ => h
  | _ :: _, _, _, ⟨c1, c2, b1, b2, e1, e2, h1, h2⟩, hk => by
    subst e2
    exact ⟨c1, c2, b1, b2, e1, rfl, Cod.own_keep (fun g hg => hk g (List.mem_append_left _ hg)) h1, h2.keep fun g hg => hk g (List.mem_append_right _ hg)⟩
theorem Els.len : ∀ {xs : List α} {cs bs}, Els w xs cs bs → cs.length = xs.length * Cod.size α
  | [], _, _, h => by simp [h.1]
  | _ :: _, _, _, ⟨c1, c2, b1, b2, e1, e2, h1, h2⟩ => by
    subst e1
    rw [List.length_append, own_len h1, h2.len, List.length_cons, Nat.add_mul, Nat.one_mul, Nat.add_comm]
theorem Els.snoc : ∀ {xs : List α} {cs bs} {x : α} {c b}, Els w xs cs bs → Cod.own w x c b → Els w (xs ++ [x]) (cs ++ c) (bs ++ b)
  | [], _, _, _, c, b, ⟨e1, e2⟩, hx => by
    subst e1; subst e2
    exact ⟨c, [], b, [], by simp, by simp, hx, rfl, rfl⟩
  | _ :: _, _, _, _, _, _, ⟨c1, c2, b1, b2, e1, e2, h1, h2⟩, hx => by
    subst e1; subst e2
    exact ⟨c1, _, b1, _, by simp, by simp, h1, h2.snoc hx⟩
/-- Element k: its cells, and its blocks among all. -/
theorem Els.at_ : ∀ {xs : List α} {cs bs} {k : Nat} {x : α}, Els w xs cs bs → xs[k]? = some x → ∃ c b, Cod.own w x c b ∧ (∀ g ∈ b, g ∈ bs) ∧ ∀ j u, c[j]? = some u → cs[k * Cod.size α + j]? = some u
  | [], _, _, _, _, _, hx => by simp at hx
  | y :: ys, _, _, 0, x, ⟨c1, c2, b1, b2, e1, e2, h1, h2⟩, hx => by
    subst e1; subst e2
    simp only [List.getElem?_cons_zero, Option.some.injEq] at hx
    subst hx
    refine ⟨c1, b1, h1, fun g hg => List.mem_append_left _ hg, fun j u hu => ?_⟩
    rw [Nat.zero_mul, Nat.zero_add, List.getElem?_append_left (List.getElem?_eq_some_iff.1 hu).1]
    exact hu
  | y :: ys, _, _, k + 1, x, ⟨c1, c2, b1, b2, e1, e2, h1, h2⟩, hx => by
    subst e1; subst e2
    obtain ⟨c, b, h, hb, hc⟩ := h2.at_ (k := k) (by simpa using hx)
    refine ⟨c, b, h, fun g hg => List.mem_append_right _ (hb g hg), fun j u hu => ?_⟩
    have hl := own_len h1
    rw [List.getElem?_append_right (by rw [hl, Nat.add_mul]; omega), hl, Nat.add_mul, Nat.one_mul]
    rw [show k * Cod.size α + Cod.size α + j - Cod.size α = k * Cod.size α + j by omega]
    exact hc j u hu

theorem OwnS.keep {bs : List Nat} (h : OwnS w A xs bs) (hk : ∀ g ∈ bs, w'.heap[g]? = w.heap[g]?) : OwnS w' A xs bs := by
  rcases h with h | ⟨g, t, cur, cs, b2, e, hg, hc, he, rfl⟩
  · exact .inl h
  · exact .inr ⟨g, t, cur, cs, b2, e, (hk g (List.mem_cons_self ..)).trans hg, hc, he.keep fun x hx => hk x (List.mem_cons_of_mem _ hx), rfl⟩
theorem OwnS.rd {bs : List Nat} (h : OwnS w A xs bs) (hB : ∀ g ∈ bs, g < B) : RdS w B A xs := by
  rcases h with ⟨rfl, rfl⟩ | ⟨g, t, cur, cs, b2, e, hg, hc, he, rfl⟩
  · exact RdS.nil_
  · intro k x hx
    obtain ⟨c, b, ho, hb, hcs⟩ := he.at_ hx
    refine ⟨g, 0, c, e, hB g (List.mem_cons_self ..), Cod.own_rd ho fun y hy => hB y (List.mem_cons_of_mem _ (hb y hy)), fun j u hu => ?_⟩
    rw [cell_of_row w g _ cur t (0, 0) hg, Nat.zero_add]
    have h1 := hcs j u hu
    rw [← hc, List.getElem?_take] at h1
    split at h1
    · simpa using h1
    · cases h1
theorem OwnS.lt {bs : List Nat} (h : OwnS w A xs bs) : ∀ g ∈ bs.head?, g < w.heap.size := by
  rcases h with ⟨rfl, rfl⟩ | ⟨g, t, cur, cs, b2, e, hg, hc, he, rfl⟩
  · intro g hg; simp at hg
  · intro x hx
    simp at hx; subst hx
    exact (Array.getElem?_eq_some_iff.1 hg).1

theorem take_take_len {α : Type} (l : List α) (n : Nat) : l.take (l.take n).length = l.take n := by
  rw [List.length_take]
  rcases Nat.le_total n l.length with h | h
  · rw [Nat.min_eq_left h]
  · rw [Nat.min_eq_right h, List.take_length, List.take_of_length_le h]
theorem OwnS.of {g m : Nat} {t : TypeId} {cur : Array Value} {b2 : List Nat} (hg : w.heap[g]? = some (.cells cur t (0, 0))) (he : Els w xs (cur.toList.take m) b2) : OwnS w (some ⟨g, 0, none⟩) xs (g :: b2) :=
  .inr ⟨g, t, cur, _, b2, rfl, hg, take_take_len _ _, he, rfl⟩

/-- how many numbers the marking counts; what it makes, from k on -/
def cntS : List α → Nat
  | [] => 0
  | x :: xs => Cod.cnt x + cntS xs
def totS : List α → Nat
  | [] => 0
  | x :: xs => Cod.tot x + totS xs
def mkS : Nat → List α → List α
  | _, [] => []
  | k, x :: xs => Cod.mark k x :: mkS (k + Cod.cnt x) xs
end

section
variable {α : Type} [Cod α]
theorem mkS_length : ∀ (k : Nat) (xs : List α), (mkS k xs).length = xs.length
  | _, [] => rfl
  | k, x :: xs => by simp [mkS, mkS_length _ xs]
theorem mkS_snoc : ∀ (k : Nat) (xs : List α) (x : α), mkS k (xs ++ [x]) = mkS k xs ++ [Cod.mark (k + cntS xs) x]
  | k, [], x => by simp [mkS, cntS]
  | k, y :: xs, x => by simp [mkS, cntS, mkS_snoc _ xs x, Nat.add_assoc]
theorem mkS_get : ∀ (k : Nat) (xs : List α) (n : Nat) (x : α), xs[n]? = some x → (mkS k xs)[n]? = some (Cod.mark (k + cntS (xs.take n)) x)
  | k, [], n, x, h => by simp at h
  | k, y :: xs, 0, x, h => by simp at h; subst h; simp [mkS, cntS]
  | k, y :: xs, n + 1, x, h => by simp [mkS, cntS, mkS_get (k + Cod.cnt y) xs n x (by simpa using h), Nat.add_assoc]
theorem cntS_snoc : ∀ (xs : List α) (x : α), cntS (xs ++ [x]) = cntS xs + Cod.cnt x
  | [], x => by simp [cntS]
  | y :: xs, x => by simp [cntS, cntS_snoc xs x, Nat.add_assoc]
end

instance : Cod Int := ⟨1, fun _ _ z cs => cs = [.int .i64 z], fun h => by simp [h], fun _ h => h, fun _ h => h, fun _ z cs bs => cs = [.int .i64 z] ∧ bs = [], fun _ h => h, fun h _ => h.1, by decide, fun _ => 1, fun _ => 0, fun k _ => k⟩
instance : Cod Bool := ⟨1, fun _ _ z cs => cs = [.bool z], fun h => by simp [h], fun _ h => h, fun _ h => h, fun _ z cs bs => cs = [.bool z] ∧ bs = [], fun _ h => h, fun h _ => h.1, by decide, fun _ => 1, fun _ => 0, fun k _ => decide (k % 3 = 0)⟩
instance : Cod (Int × Int) := ⟨2, fun _ _ z cs => cs = [.int .i64 z.1, .int .i64 z.2], fun h => by simp [h], fun _ h => h, fun _ h => h,
  fun _ z cs bs => cs = [.int .i64 z.1, .int .i64 z.2] ∧ bs = [], fun _ h => h, fun h _ => h.1, by decide, fun _ => 2, fun _ => 0, fun k _ => (k, (k + 1 : Nat))⟩
instance {α : Type} [Cod α] : Cod (List α) := ⟨1, fun w B xs cs => ∃ A c, cs = [.slice A xs.length c] ∧ xs.length ≤ 9223372036854775807 ∧ RdS w B A xs, fun ⟨_, _, h, _⟩ => by simp [h],
  fun hk ⟨A, c, h, hl, hr⟩ => ⟨A, c, h, hl, hr.keep hk⟩, fun hB ⟨A, c, h, hl, hr⟩ => ⟨A, c, h, hl, hr.more hB⟩,
  fun w xs cs bs => ∃ A c, cs = [.slice A xs.length c] ∧ xs.length ≤ 9223372036854775807 ∧ OwnS w A xs bs, fun hk ⟨A, c, h, hl, ho⟩ => ⟨A, c, h, hl, ho.keep hk⟩, fun ⟨A, c, h, hl, ho⟩ hB => ⟨A, c, h, hl, ho.rd hB⟩, by decide, cntS, fun xs => xs.length + totS xs, mkS⟩

section
variable {w w' : World} {B B' : Nat} {A : Option Addr} {k : Nat}
theorem RdS.int {xs : List Int} (h : RdS w B A xs) {x : Int} (hx : xs[k]? = some x) : ∃ b o, A = some ⟨b, o, none⟩ ∧ b < B ∧ w.cell? ⟨b, o + k, none⟩ = some (.int .i64 x) := by
  obtain ⟨b, o, cs, e, hb, rfl, hc⟩ := h k x hx
  exact ⟨b, o, e, hb, by simpa [Cod.size] using hc 0 _ rfl⟩
theorem RdS.bool {xs : List Bool} (h : RdS w B A xs) {x : Bool} (hx : xs[k]? = some x) : ∃ b o, A = some ⟨b, o, none⟩ ∧ b < B ∧ w.cell? ⟨b, o + k, none⟩ = some (.bool x) := by
  obtain ⟨b, o, cs, e, hb, rfl, hc⟩ := h k x hx
  exact ⟨b, o, e, hb, by simpa [Cod.size] using hc 0 _ rfl⟩
theorem RdS.pair {xs : List (Int × Int)} (h : RdS w B A xs) {x : Int × Int} (hx : xs[k]? = some x) :
    ∃ b o, A = some ⟨b, o, none⟩ ∧ b < B ∧ w.cell? ⟨b, o + k * 2, none⟩ = some (.int .i64 x.1) ∧ w.cell? ⟨b, o + k * 2 + 1, none⟩ = some (.int .i64 x.2) := by
  obtain ⟨b, o, cs, e, hb, rfl, hc⟩ := h k x hx
  exact ⟨b, o, e, hb, by simpa [Cod.size] using hc 0 _ rfl, by simpa [Cod.size, Nat.add_assoc] using hc 1 _ rfl⟩
theorem RdS.row {α : Type} [Cod α] {xs : List (List α)} (h : RdS w B A xs) {x : List α} (hx : xs[k]? = some x) :
    ∃ b o A' c, A = some ⟨b, o, none⟩ ∧ b < B ∧ w.cell? ⟨b, o + k, none⟩ = some (.slice A' x.length c) ∧ x.length ≤ 9223372036854775807 ∧ RdS w B A' x := by
  obtain ⟨b, o, cs, e, hb, ⟨A', c, rfl, hl, hr⟩, hc⟩ := h k x hx
  exact ⟨b, o, A', c, e, hb, by simpa [Cod.size] using hc 0 _ rfl, hl, hr⟩
end

/-- Only the blocks bs have been written, and new ones laid. -/
structure OnlyB (bs : List Nat) (w w' : World) : Prop where
  os : w'.os = w.os
  tape : w'.tape = w.tape
  output : w'.output = w.output
  size : w.heap.size ≤ w'.heap.size
  block : ∀ g, g < w.heap.size → g ∉ bs → w'.heap[g]? = w.heap[g]?
theorem OnlyB.refl (bs : List Nat) (w : World) : OnlyB bs w w := ⟨rfl, rfl, rfl, Nat.le_refl _, fun _ _ _ => rfl⟩
theorem OnlyB.trans {bs : List Nat} {a b c : World} (h : OnlyB bs a b) (k : OnlyB bs b c) : OnlyB bs a c :=
  ⟨k.os.trans h.os, k.tape.trans h.tape, k.output.trans h.output, Nat.le_trans h.size k.size, fun g hg hn => (k.block g (Nat.lt_of_lt_of_le hg h.size) hn).trans (h.block g hg hn)⟩
theorem OnlyB.mono {bs bs' : List Nat} {a b : World} (h : OnlyB bs a b) (hs : ∀ g ∈ bs, g ∈ bs') : OnlyB bs' a b := ⟨h.os, h.tape, h.output, h.size, fun g hg hn => h.block g hg fun e => hn (hs g e)⟩
theorem OnlyB.of_below {a b : World} (h : Below a.heap.size a b) (bs : List Nat) : OnlyB bs a b := ⟨h.os, h.tape, h.output, h.size, fun g hg _ => h.block g hg⟩
theorem OnlyB.below {bs : List Nat} {B : Nat} {a b : World} (h : OnlyB bs a b) (hs : ∀ g ∈ bs, B ≤ g) (hB : B ≤ a.heap.size) : Below B a b :=
  ⟨h.os, h.tape, h.output, h.size, fun g hg => h.block g (by omega) fun e => by have := hs g e; omega⟩
theorem OnlyB.setCell {bs : List Nat} {a b : World} (h : OnlyB bs a b) {g i : Nat} (hg : g ∈ bs) (u : Value) : OnlyB bs a (b.setCell ⟨g, i, none⟩ u) :=
  h.trans ⟨rfl, rfl, rfl, by simp [World.setCell], fun k _ hn => Below.heap_setCell _ _ _ _ (fun e => hn (by subst e; exact hg))⟩
theorem OnlyB.alloc {bs : List Nat} {a b : World} (h : OnlyB bs a b) (o : Obj) : OnlyB bs a (b.alloc o) := h.trans (OnlyB.of_below ((Below.refl _ _).alloc (Nat.le_refl _) o) bs)
theorem OnlyB.drew {bs : List Nat} {a b : World} (h : OnlyB bs a b) : OnlyB bs a b.drew := ⟨h.os, h.tape, h.output, h.size, h.block⟩
theorem OwnS.only {α : Type} [Cod α] {w w' : World} {A : Option Addr} {xs : List α} {bs bs' : List Nat} (h : OwnS w A xs bs) (ho : OnlyB bs' w w') (hd : ∀ g ∈ bs, g ∉ bs' ∧ g < w.heap.size) : OwnS w' A xs bs :=
  h.keep fun g hg => ho.block g (hd g hg).2 (hd g hg).1
theorem OwnS.below {α : Type} [Cod α] {w w' : World} {A : Option Addr} {xs : List α} {bs : List Nat} {B : Nat} (h : OwnS w A xs bs) (ho : Below B w w') (hd : ∀ g ∈ bs, g < B) : OwnS w' A xs bs :=
  h.keep fun g hg => ho.block g (hd g hg)

/-- The blocks bs are new since B, and no one stands twice. -/
def Fresh (B : Nat) (w : World) (bs : List Nat) : Prop := bs.Nodup ∧ ∀ g ∈ bs, B ≤ g ∧ g < w.heap.size
theorem Fresh.more {B : Nat} {w w' : World} {bs : List Nat} (h : Fresh B w bs) (hs : w.heap.size ≤ w'.heap.size) : Fresh B w' bs := ⟨h.1, fun g hg => ⟨(h.2 g hg).1, Nat.lt_of_lt_of_le (h.2 g hg).2 hs⟩⟩

theorem make_full {P : Program} (t e : TypeId) (z : Value) (zc : Array Value) (size bytes : Nat) (ht : P.underlying t = some (.slice e)) (hinfo : (P.info? e).map (fun i => (i.zero, i.size, i.bytes)) = some (some z, size, bytes)) (hz : z.cells = zc)
    (n : Nat) (hb : bytes * n ≤ 281474976710656) (hn : n ≤ 9223372036854775807) (W : World) :
    (Instr.makeSlice t (.int .i64 (n : Int)) (.int .i64 (n : Int))).run P W = .ok (.slice (some ⟨W.heap.size, 0, none⟩) n n) (W.alloc (.cells (madeCells zc (n * size)) e)) := by
  obtain ⟨i0, hi, hz0, hz1, hz2⟩ := info_parts hinfo
  have h : ((bytes * n : Nat) : Int) ≤ 281474976710656 := by omega
  have := run_make (P := P) W t e i0 _ ht hi hz0 .i64 .i64 (n : Int) (n : Int) (by omega) (Int.le_refl _) (by rw [hz2]; rwa [Int.natCast_mul] at h) (by omega)
  rw [hz1, hz] at this
  simpa using this

theorem blk_cell {w : World} {g i : Nat} {t : TypeId} {cur : Array Value} (h : w.heap[g]? = some (.cells cur t (0, 0))) (hi : i < cur.size) : ∃ u, w.cell? ⟨g, i, none⟩ = some u :=
  ⟨cur[i], by rw [cell_of_row w g i cur t (0, 0) h]; exact Array.getElem?_eq_getElem hi⟩
theorem blk_free {w : World} {g i : Nat} {t : TypeId} {cur : Array Value} (h : w.heap[g]? = some (.cells cur t (0, 0))) : w.frozen? ⟨g, i, none⟩ = false := by simp [World.frozen?, h]

theorem blk_set {w : World} {g i : Nat} {t : TypeId} {cur : Array Value} (h : w.heap[g]? = some (.cells cur t (0, 0))) (u : Value) : (w.setCell ⟨g, i, none⟩ u).heap[g]? = some (.cells (cur.setIfInBounds i u) t (0, 0)) := by
  simp [World.setCell, Array.getElem?_modify, h]
theorem blk_far {w : World} {g : Nat} {p : Addr} {o : Obj} (h : w.heap[g]? = some o) (hp : g ≠ p.block) (u : Value) : (w.setCell p u).heap[g]? = some o := (Below.heap_setCell w p u g hp).trans h
theorem fill1 {cur : Array Value} {k : Nat} (a : Value) (hk : k < cur.size) : (cur.setIfInBounds k a).toList.take (k + 1) = cur.toList.take k ++ [a] := by
  rw [Array.toList_setIfInBounds, List.take_succ_eq_append_getElem (by simpa using hk)]
  simp [List.take_set_of_le]
theorem fill2 {cur : Array Value} {k : Nat} (a b : Value) (hk : k * 2 + 1 < cur.size) : ((cur.setIfInBounds (k * 2) a).setIfInBounds (k * 2 + 1) b).toList.take ((k + 1) * 2) = cur.toList.take (k * 2) ++ [a, b] := by
  rw [show (k + 1) * 2 = (k * 2 + 1) + 1 by omega, fill1 b (by simpa using hk), fill1 a (by omega)]
  simp

/-- a pair's two cells -/
def encP (x : Int × Int) : List Value := [.int .i64 x.1, .int .i64 x.2]
theorem Els_pairs {w : World} : ∀ {xs : List (Int × Int)} {cs : List Value} {bs : List Nat}, Els w xs cs bs ↔ cs = xs.flatMap encP ∧ bs = []
  | [], cs, bs => by simp [Els]
  | x :: xs, cs, bs => by
    simp only [Els, Els_pairs, List.flatMap_cons, Cod.own]
    constructor
    · rintro ⟨c1, c2, b1, b2, rfl, rfl, ⟨rfl, rfl⟩, rfl, rfl⟩
      exact ⟨rfl, rfl⟩
    · rintro ⟨rfl, rfl⟩
      exact ⟨_, _, [], [], rfl, rfl, ⟨rfl, rfl⟩, rfl, rfl⟩
theorem cntS_pairs : ∀ xs : List (Int × Int), cntS xs ≤ 2 * xs.length
  | [] => Nat.le_refl _
  | x :: xs => by have := cntS_pairs xs; simp only [cntS, Cod.cnt, List.length_cons]; omega
theorem encP_length : ∀ xs : List (Int × Int), (xs.flatMap encP).length = xs.length * 2
  | [] => rfl
  | x :: xs => by rw [List.flatMap_cons, List.length_append, encP_length xs, List.length_cons]; simp [encP]; omega
theorem set_pair {cur : Array Value} {m k : Nat} {P R : List (Int × Int)} {x : Int × Int} (a b : Int) (h : cur.toList.take m = (P ++ x :: R).flatMap encP) (hP : P.length = k) :
    ((cur.setIfInBounds (k * 2) (.int .i64 a)).setIfInBounds (k * 2 + 1) (.int .i64 b)).toList.take m = (P ++ (a, b) :: R).flatMap encP := by
  rw [Array.toList_setIfInBounds, Array.toList_setIfInBounds, List.take_set, List.take_set, h]
  have hl := encP_length P
  rw [List.flatMap_append, List.flatMap_append, List.flatMap_cons, List.flatMap_cons]
  rw [List.set_append_right _ _ (by omega), List.set_append_right _ _ (by omega)]
  rw [show k * 2 - (P.flatMap encP).length = 0 by omega, show k * 2 + 1 - (P.flatMap encP).length = 1 by omega]
  rfl

/-- 'Below' since w, under a name of its own. -/
structure Since (w w' : World) : Prop where
  out : Below w.heap.size w w'
theorem below_drewN_ {B : Nat} {a w : World} (h : Below B a w) (n : Nat) : Below B a (w.drewN n) := ⟨h.os, h.tape, h.output, h.size, h.block⟩
/-- The tape has been asked, and nothing else has happened. -/
def Drew (w w' : World) : Prop := ∃ n, w' = w.drewN n
theorem Drew.refl (w : World) : Drew w w := ⟨0, rfl⟩
theorem Drew.more {w w' : World} (h : Drew w w') (n : Nat) : Drew w (w'.drewN n) := by
  obtain ⟨m, rfl⟩ := h
  exact ⟨m + n, World.drewN_drewN _ _ _⟩
theorem Drew.trans {a b c : World} (h : Drew a b) (k : Drew b c) : Drew a c := by
  obtain ⟨m, rfl⟩ := k
  exact h.more m
theorem Drew.below {w w' : World} (h : Drew w w') (B : Nat) : Below B w w' := by
  obtain ⟨m, rfl⟩ := h
  exact below_drewN_ (Below.refl _ _) _
theorem Drew.size {w w' : World} (h : Drew w w') : w'.heap.size = w.heap.size := by
  obtain ⟨m, rfl⟩ := h
  rfl
theorem Drew.rd {α : Type} [Cod α] {w w' : World} {A : Option Addr} {xs : List α} (h : Drew w w') (r : RdS w w.heap.size A xs) : RdS w' w'.heap.size A xs := (r.below (h.below _) (Nat.le_refl _)).more (by rw [h.size]; exact Nat.le_refl _)
theorem new_cells {w : World} {l : List Value} {t : TypeId} {n : Nat} (hn : n = w.heap.size) (j : Nat) (u : Value) (h : l[j]? = some u) : (w.alloc (.cells l.toArray t)).cell? ⟨n, j, none⟩ = some u := by
  subst hn
  rw [cell_of_row _ _ j l.toArray t (0, 0) (heap_alloc_new w _)]
  simpa using h
theorem new_block {w : World} {o : Obj} {n : Nat} (hn : n = w.heap.size) : (w.alloc o).heap[n]? = some o := by
  subst hn
  exact heap_alloc_new w o
theorem sz_alloc (w : World) (o : Obj) : (w.alloc o).heap.size = w.heap.size + 1 := by simp
theorem sz_set (w : World) (a : Addr) (u : Value) : (w.setCell a u).heap.size = w.heap.size := by simp [World.setCell]
theorem sz_drew (w : World) : w.drew.heap.size = w.heap.size := rfl
theorem sz_drewN (w : World) (n : Nat) : (w.drewN n).heap.size = w.heap.size := rfl
theorem bcell {W w1 : World} (hb : Below W.heap.size W w1) : (∀ b o, b < W.heap.size → w1.cell? ⟨b, o, none⟩ = W.cell? ⟨b, o, none⟩) ∧ (∀ b o, b < W.heap.size → w1.frozen? ⟨b, o, none⟩ = W.frozen? ⟨b, o, none⟩) :=
  ⟨fun b o h => hb.cell (p := ⟨b, o, none⟩) h, fun b o h => hb.frozen (p := ⟨b, o, none⟩) h⟩
theorem RdS.up {α : Type} [Cod α] {w w' : World} {A : Option Addr} {xs : List α} (h : RdS w w.heap.size A xs) (hb : Below w.heap.size w w') : RdS w' w'.heap.size A xs := (h.below hb (Nat.le_refl _)).more hb.size

theorem drop_cons {α : Type} {xs : List α} {k : Nat} {x : α} (h : xs[k]? = some x) : xs.drop k = x :: xs.drop (k + 1) := by
  obtain ⟨hk, rfl⟩ := List.getElem?_eq_some_iff.1 h
  exact List.drop_eq_getElem_cons hk
theorem take_snoc {α : Type} {xs : List α} {k : Nat} {x : α} (h : xs[k]? = some x) : xs.take (k + 1) = xs.take k ++ [x] := by
  obtain ⟨hk, rfl⟩ := List.getElem?_eq_some_iff.1 h
  exact (List.take_append_getElem hk).symm
theorem get_some {α : Type} {xs : List α} {k : Nat} (h : k < xs.length) : ∃ x, xs[k]? = some x := ⟨_, List.getElem?_eq_getElem h⟩
theorem below_cat {B : Nat} {a b c : World} (h : Below B a b) (h1 : Below b.heap.size b c) (hB : B ≤ b.heap.size) : Below B a c := h.trans (h1.mono hB)
theorem ret_bool {a b : Bool} (h : a = b) : Ending.returned (.bool a) = .returned (.bool b) := by rw [h]
theorem ret_int {k : IntKind} {a b : Int} (h : a = b) : Ending.returned (.int k a) = .returned (.int k b) := by rw [h]
/-- The rest of a budget: -1, or what is left of it. -/
def Left (left : Int) (t : Nat) (r : Int) : Prop := r = -1 ∨ (0 ≤ r ∧ r + t = left)
def RetLeft (left : Int) (t : Nat) (w : World) (e : Ending) (w' : World) : Prop := ∃ r, e = .returned (.int .i64 r) ∧ Left left t r ∧ Below w.heap.size w w'


/-- It returns the list, in new memory. -/
def RetOwn {α : Type} [Cod α] (xs : List α) (w : World) (e : Ending) (w' : World) : Prop := ∃ A' c' bs, e = .returned (.slice A' xs.length c') ∧ OwnS w' A' xs bs ∧ Fresh w.heap.size w' bs ∧ Below w.heap.size w w'
/-- It returns the marks' end; the list is marked, and only its own blocks have been written. -/
def RetMark {α : Type} [Cod α] (A : Option Addr) (xs : List α) (k0 : Nat) (bs : List Nat) (w : World) (e : Ending) (w' : World) : Prop := e = .returned (.int .i64 ((k0 + cntS xs : Nat) : Int)) ∧ OwnS w' A (mkS k0 xs) bs ∧ OnlyB bs w w'
theorem totS_zero {α : Type} [Cod α] (h : ∀ x : α, Cod.tot x = 0) : ∀ xs : List α, totS xs = 0
  | [] => rfl
  | x :: xs => by rw [totS, h x, totS_zero h xs]
theorem tot_list {α : Type} [Cod α] (xs : List α) : Cod.tot xs = xs.length + totS xs := rfl
theorem cnt_list {α : Type} [Cod α] (xs : List α) : Cod.cnt xs = cntS xs := rfl
theorem mark_list {α : Type} [Cod α] (k : Nat) (xs : List α) : Cod.mark k xs = mkS k xs := rfl
theorem tot_at {α : Type} [Cod α] : ∀ {xs : List α} {k : Nat} {x : α}, xs[k]? = some x → Cod.tot x ≤ totS xs
  | [], _, _, h => by simp at h
  | y :: ys, 0, x, h => by simp at h; subst h; simp [totS]
  | y :: ys, k + 1, x, h => by have := tot_at (xs := ys) (k := k) (by simpa using h); simp only [totS]; omega
theorem totS_take {α : Type} [Cod α] : ∀ (xs : List α) (x : α), totS (xs ++ [x]) = totS xs + Cod.tot x
  | [], x => by simp [totS]
  | y :: ys, x => by simp [totS, totS_take ys x, Nat.add_assoc]
theorem totS_drop {α : Type} [Cod α] {xs : List α} {k : Nat} {x : α} (h : xs[k]? = some x) : totS (xs.drop k) = Cod.tot x + totS (xs.drop (k + 1)) := by rw [drop_cons h]; rfl
theorem cntS_split {α : Type} [Cod α] {xs : List α} {k : Nat} {x : α} (h : xs[k]? = some x) : cntS (xs.take k) + Cod.cnt x ≤ cntS xs := by
  have : cntS xs = cntS (xs.take k) + cntS (xs.drop k) := by
    have key : ∀ (a b : List α), cntS (a ++ b) = cntS a + cntS b := by
      intro a b
      induction a with
      | nil => simp [cntS]
      | cons y a ih => simp [cntS, ih, Nat.add_assoc]
    rw [← key, List.take_append_drop]
  rw [this, drop_cons h]
  simp only [cntS]
  omega
theorem Els.split {α : Type} [Cod α] {w : World} : ∀ {P : List α} {x : α} {R : List α} {cs : List Value} {bs : List Nat}, Els w (P ++ x :: R) cs bs →
    ∃ c1 c c2 b1 b b2, cs = c1 ++ (c ++ c2) ∧ bs = b1 ++ (b ++ b2) ∧ Els w P c1 b1 ∧ Cod.own w x c b ∧ Els w R c2 b2
  | [], x, R, cs, bs, ⟨c, c2, b, b2, e1, e2, h1, h2⟩ => ⟨[], c, c2, [], b, b2, e1, e2, ⟨rfl, rfl⟩, h1, h2⟩
  | y :: P, x, R, cs, bs, ⟨d, d2, f, f2, e1, e2, h1, h2⟩ => by
    obtain ⟨c1, c, c2, b1, b, b2, rfl, rfl, g1, g2, g3⟩ := h2.split
    exact ⟨d ++ c1, c, c2, f ++ b1, b, b2, by rw [e1, List.append_assoc], by rw [e2, List.append_assoc], ⟨d, c1, f, b1, rfl, rfl, h1, g1⟩, g2, g3⟩
theorem Els.join {α : Type} [Cod α] {w : World} : ∀ {P R : List α} {c1 c2 : List Value} {b1 b2 : List Nat}, Els w P c1 b1 → Els w R c2 b2 → Els w (P ++ R) (c1 ++ c2) (b1 ++ b2)
  | [], R, c1, c2, b1, b2, ⟨e1, e2⟩, h => by subst e1; subst e2; exact h
  | y :: P, R, c1, c2, b1, b2, ⟨d, d2, f, f2, e1, e2, h1, h2⟩, h => by
    subst e1; subst e2
    exact ⟨d, d2 ++ c2, f, f2 ++ b2, by rw [List.append_assoc], by rw [List.append_assoc], h1, h2.join h⟩
theorem cnt_tot {α : Type} [Cod α] (h : ∀ x : α, Cod.cnt x ≤ 2 * Cod.tot x + 2) : ∀ xs : List α, cntS xs ≤ 2 * (xs.length + totS xs)
  | [] => Nat.zero_le _
  | x :: xs => by
    have := h x
    have := cnt_tot h xs
    simp only [cntS, totS, List.length_cons]
    omega
theorem cnt_list_le {α : Type} [Cod α] (h : ∀ x : α, Cod.cnt x ≤ 2 * Cod.tot x + 2) (xs : List α) : Cod.cnt xs ≤ 2 * Cod.tot xs + 2 := by
  rw [cnt_list, tot_list]
  have := cnt_tot h xs
  omega
theorem cntS_le {α : Type} [Cod α] (h : ∀ x : α, Cod.cnt x ≤ 2 * Cod.tot x + 2) (xs : List α) : cntS xs ≤ 2 * Cod.tot xs := by
  rw [tot_list]
  exact cnt_tot h xs
theorem cnt_int (x : Int) : Cod.cnt x ≤ 2 * Cod.tot x + 2 := by simp [Cod.cnt, Cod.tot]
theorem cnt_bool (x : Bool) : Cod.cnt x ≤ 2 * Cod.tot x + 2 := by simp [Cod.cnt, Cod.tot]
theorem cnt_pair (x : Int × Int) : Cod.cnt x ≤ 2 * Cod.tot x + 2 := by simp [Cod.cnt, Cod.tot]
end Go.Proofs.Ytpknkaidmefenaa
