/-
  Words: the pieces of a text between bytes; a slice of strings as a list; strings.Split at one byte. Conditions: those in each statement.
-/
import Derived.Test.YtelmooaenodfaaaDoorTxt
import Derived.Test.YtelmooaenodfaaaDoorAcc
import Derived.Test.YtelmooaenodfaaaDoorShelf
import Derived.WalkSpells
import Derived.Lib.SplitLaws
set_option linter.unusedVariables false
set_option linter.unusedSimpArgs false
set_option maxRecDepth 100000
set_option maxHeartbeats 1000000
namespace Go.Proofs.YtelmooaenodfaaaDoor
open Go.RowKit

/-- The bytes of a string, as an element of a slice. -/
structure Bs where
  l : List UInt8
instance : Cod Bs := ⟨1, fun _ _ z cs => cs = [.string (str z.l)], fun h => by simp [h], fun _ h => h, fun _ h => h, fun _ z cs bs => cs = [.string (str z.l)] ∧ bs = [], fun _ h => h, fun h _ => h.1, by decide, fun _ => 1, fun _ => 0, fun _ z => z⟩
theorem RdS.bs {w : World} {B : Nat} {A : Option Addr} {k : Nat} {xs : List Bs} (h : RdS w B A xs) {x : Bs} (hx : xs[k]? = some x) : ∃ b o, A = some ⟨b, o, none⟩ ∧ b < B ∧ w.cell? ⟨b, o + k, none⟩ = some (.string (str x.l)) := by
  obtain ⟨b, o, cs, e, hb, rfl, hc⟩ := h k x hx
  exact ⟨b, o, e, hb, by simpa [Cod.size] using hc 0 _ rfl⟩

theorem str_extract (l : List UInt8) (i j : Nat) : (str l).extract i j = str ((l.drop i).take (j - i)) := by
  unfold str
  rw [ByteArray.extract_mk]
theorem idx_str {P : Program} {t : TypeId} (ht : P.underlying t = some .string) {l : List UInt8} {k : Nat} {b : UInt8} (hb : l[k]? = some b) (W : World) :
    (Instr.index t (.string (str l)) (.int .i64 (k : Int))).run P W = .ok (.int .u8 (b.toNat : Int)) W := by
  have hk := (List.getElem?_eq_some_iff.1 hb).1
  rw [run_index_string W t (str l) .i64 (k : Int) ht, dif_pos ⟨by omega, by rw [str_size]; omega⟩]
  have : (str l)[((k : Nat) : Int).toNat]'(by rw [str_size]; simpa using hk) = b := by
    have h2 := (List.getElem?_eq_some_iff.1 hb).2
    rw [← h2]
    rfl
  rw [this]
theorem sl_mid {P : Program} {t : TypeId} (ht : P.underlying t = some .string) {l : List UInt8} {i j : Nat} (h1 : i ≤ j) (h2 : j ≤ l.length) (W : World) :
    (Instr.slice t (.string (str l)) (some (.int .i64 (i : Int))) (some (.int .i64 (j : Int))) none).run P W = .ok (.string (str ((l.drop i).take (j - i)))) W := by
  rw [run_slice_string W t (str l) .i64 .i64 (i : Int) (j : Int) ht (by omega) (by omega) (by rw [str_size]; omega), ← str_extract]
  rfl
theorem sl_from {P : Program} {t : TypeId} (ht : P.underlying t = some .string) {l : List UInt8} {i : Nat} (h1 : i ≤ l.length) (W : World) :
    (Instr.slice t (.string (str l)) (some (.int .i64 (i : Int))) none none).run P W = .ok (.string (str (l.drop i))) W := by
  rw [run_slice_string_l W t (str l) ht .i64 (i : Int) (by omega) (by rw [str_size]; omega)]
  have : (str l).extract ((i : Nat) : Int).toNat (str l).size = str (l.drop i) := by
    rw [str_extract, str_size]
    congr 1
    rw [show ((i : Nat) : Int).toNat = i from rfl]
    apply List.take_of_length_le
    simp
  rw [this]
theorem sl_to {P : Program} {t : TypeId} (ht : P.underlying t = some .string) {l : List UInt8} {j : Nat} (h1 : j ≤ l.length) (W : World) :
    (Instr.slice t (.string (str l)) none (some (.int .i64 (j : Int))) none).run P W = .ok (.string (str (l.take j))) W := by
  rw [run_slice_string_h W t (str l) ht .i64 (j : Int) (by omega) (by rw [str_size]; omega)]
  have : (str l).extract 0 ((j : Nat) : Int).toNat = str (l.take j) := by
    rw [str_extract]
    congr 1
  rw [this]

/-- The pieces of a text between the bytes c. -/
def glue (p : List UInt8) : List (List UInt8) → List (List UInt8)
  | [] => [p]
  | h :: t => (p ++ h) :: t
def splitL (c : UInt8) : List UInt8 → List (List UInt8)
  | [] => [[]]
  | b :: l => if b = c then [] :: splitL c l else glue [b] (splitL c l)
theorem splitL_ne (c : UInt8) (l : List UInt8) : splitL c l ≠ [] := by
  cases l with
  | nil => simp [splitL]
  | cons b l =>
    unfold splitL
    split
    · simp
    · cases splitL c l <;> simp [glue]
theorem glue_nil {xs : List (List UInt8)} (h : xs ≠ []) : glue [] xs = xs := by cases xs <;> simp_all [glue]
theorem glue_glue (p q : List UInt8) (xs : List (List UInt8)) : glue p (glue q xs) = glue (p ++ q) xs := by cases xs <;> simp [glue]
theorem splitL_hit {c : UInt8} {l : List UInt8} {k : Nat} (h : l[k]? = some c) (p : List UInt8) : glue p (splitL c (l.drop k)) = p :: splitL c (l.drop (k + 1)) := by
  have hk := (List.getElem?_eq_some_iff.1 h).1
  have he := (List.getElem?_eq_some_iff.1 h).2
  rw [List.drop_eq_getElem_cons hk, he, splitL, if_pos rfl]
  simp [glue]
theorem splitL_miss {c b : UInt8} {l : List UInt8} {k : Nat} (h : l[k]? = some b) (hne : b ≠ c) (p : List UInt8) : glue p (splitL c (l.drop k)) = glue (p ++ [b]) (splitL c (l.drop (k + 1))) := by
  have hk := (List.getElem?_eq_some_iff.1 h).1
  have he := (List.getElem?_eq_some_iff.1 h).2
  rw [List.drop_eq_getElem_cons hk, he, splitL, if_neg hne, glue_glue]
theorem splitL_len (c : UInt8) : ∀ l : List UInt8, (splitL c l).length ≤ l.length + 1
  | [] => by simp [splitL]
  | b :: l => by
    have ih := splitL_len c l
    have hn := splitL_ne c l
    unfold splitL
    split
    · simp; omega
    · cases hs : splitL c l with
      | nil => exact absurd hs hn
      | cons x xs =>
        rw [hs] at ih
        simp [glue] at ih ⊢
        omega

theorem splitK_L (c : UInt8) : ∀ s : List UInt8, Lib.splitK [c] 0 (Lib.count s [c]) s = splitL c s
  | [] => by
    have : Lib.count [] [c] = 0 := Lib.count_miss (by simp [Lib.index])
    rw [this]; rfl
  | b :: l => by
    have ih := splitK_L c l
    by_cases hb : b = c
    · subst hb
      have hi : Lib.index (b :: l) [b] = 0 := by simp [Lib.index, List.isPrefixOf]
      rw [Lib.count_cons_eq, Nat.add_comm 1]
      unfold Lib.splitK splitL
      rw [hi, if_pos rfl, if_neg (by decide)]
      simp
      exact ih
    · rw [Lib.count_cons_ne b c l hb]
      have hp : ([c] : List UInt8).isPrefixOf (b :: l) = false := by simp [List.isPrefixOf]; exact fun h => hb h.symm
      have hx : Lib.index (b :: l) [c] = if Lib.index l [c] == -1 then -1 else Lib.index l [c] + 1 := by
        rw [Lib.index, if_neg (by rw [hp]; simp)]
      unfold splitL
      rw [if_neg hb, ← ih]
      rcases Lib.indexB_cases (str l) (str [c]) with hm | ⟨i, hm, hle⟩
      · have hm' : Lib.index l [c] = -1 := hm
        rw [Lib.count_miss hm']
        simp [Lib.splitK, glue]
      · have hm' : Lib.index l [c] = i := hm
        rw [Lib.count_hit (by simp) hm', Nat.add_comm 1]
        have hne : ¬ ((i : Int) == -1) = true := by simp
        have hne2 : ¬ ((i : Int) + 1 == -1) = true := by simp; omega
        have hit : ((i : Int) + 1).toNat = i + 1 := by omega
        unfold Lib.splitK
        rw [hx, hm', if_neg hne, if_neg hne2, if_neg hne, hit]
        simp [glue]
theorem splitB_L (c : UInt8) (l : List UInt8) : Lib.splitB ⟨#[c]⟩ 0 (Lib.countB (str l) ⟨#[c]⟩) (str l) = (splitL c l).map str := by
  have h := Lib.splitB_data ⟨#[c]⟩ 0 (Lib.countB (str l) ⟨#[c]⟩) (str l)
  have h2 : Lib.splitK (⟨#[c]⟩ : ByteArray).data.toList 0 (Lib.countB (str l) ⟨#[c]⟩) (str l).data.toList = splitL c l := splitK_L c l
  rw [h2] at h
  rw [← h, List.map_map]
  refine (List.map_id _).symm.trans (List.map_congr_left fun x _ => ?_)
  rfl
theorem splitB_n (c : UInt8) (l : List UInt8) : Lib.countB (str l) ⟨#[c]⟩ + 1 = (splitL c l).length := by
  have h := Lib.splitB_all (⟨#[c]⟩ : ByteArray) (Nat.le_refl 1) 0 _ (str l) rfl
  rw [splitB_L, List.length_map] at h
  exact h.symm

/-- What the call finds in the library's variables. -/
structure Env (w : World) : Prop where
  max : ∃ m, w.cell? ⟨0, 0, none⟩ = some (.int .i64 m)
  syn : ∃ ev, w.cell? ⟨1, 0, none⟩ = some ev ∧ (ev = .nilIface ∨ ∃ te pe, ev = .iface te pe)
  ran : ∃ ev, w.cell? ⟨2, 0, none⟩ = some ev ∧ (ev = .nilIface ∨ ∃ te pe, ev = .iface te pe)
theorem cell_below {w w' : World} {p : Addr} {v : Value} (h : w.cell? p = some v) (hb : Below w.heap.size w w') : w'.cell? p = some v := by
  have hlt : p.block < w.heap.size := by
    by_cases hc : p.block < w.heap.size
    · exact hc
    · unfold World.cell? at h
      rw [Array.getElem?_eq_none (by omega)] at h
      simp at h
  exact (hb.cell hlt).trans h
theorem Env.up {w w' : World} (h : Env w) (hb : Below w.heap.size w w') : Env w' := by
  obtain ⟨⟨m, hm⟩, ⟨e, he, he2⟩, ⟨f, hf, hf2⟩⟩ := h
  exact ⟨⟨m, cell_below hm hb⟩, ⟨e, cell_below he hb, he2⟩, ⟨f, cell_below hf hb, hf2⟩⟩

/-- A slice of strings that reads as the pieces. -/
def RetSplit (xs : List (List UInt8)) (w : World) (e : Ending) (w' : World) : Prop :=
  ∃ A c, e = .returned (.slice A xs.length c) ∧ RdS w' w'.heap.size A (xs.map Bs.mk) ∧ (∀ a, A = some a → w.heap.size ≤ a.block) ∧ Below w.heap.size w w'
theorem rd_strs (W : World) (xs : List (List UInt8)) (t : TypeId) (B : Nat) (hB : W.heap.size < B) : RdS (W.alloc (.cells ((xs.map str).map Value.string).toArray t)) B (some ⟨W.heap.size, 0, none⟩) (xs.map Bs.mk) := fun k x hx =>
  ⟨W.heap.size, 0, [.string (str x.l)], rfl, hB, rfl, fun j u hu => by
    obtain rfl : j = 0 := by
      have := (List.getElem?_eq_some_iff.1 hu).1
      simpa using this
    simp only [List.getElem?_cons_zero, Option.some.injEq] at hu
    subst hu
    have h1 : 0 + (k * Cod.size Bs + 0) = k := by simp [Cod.size]
    rw [h1]
    rw [List.getElem?_map, Option.map_eq_some_iff] at hx
    obtain ⟨y, hy, rfl⟩ := hx
    exact new_cells rfl k _ (by rw [List.getElem?_map, List.getElem?_map, hy]; rfl)⟩
/-- The same, of the library's: the capacity is the length, the block new. -/
def RetSplit2 (xs : List (List UInt8)) (w : World) (e : Ending) (w' : World) : Prop :=
  ∃ b, e = .returned (.slice (some ⟨b, 0, none⟩) xs.length xs.length) ∧ RdS w' w'.heap.size (some ⟨b, 0, none⟩) (xs.map Bs.mk) ∧ w.heap.size ≤ b ∧ b < w'.heap.size ∧ Below w.heap.size w w'
theorem split_impl2 (l : List UInt8) (c : UInt8) (w : World) (hE : Env w) (hl : l.length ≤ 1048576) :
    Calls Tryd.prog 58 #[.string (str l), .string ⟨#[c]⟩] w (RetSplit2 (splitL c l) w) := by
  obtain ⟨m, hm⟩ := hE.max
  refine (Tryd.strings_Split (str l) ⟨#[c]⟩ m w (by rw [str_size]; omega) hm (Nat.le_refl 1)).mono ?_
  rintro e w' ⟨rfl, rfl⟩
  rw [splitB_L, splitB_n]
  exact ⟨_, rfl, rd_strs w _ _ _ (by rw [sz_alloc]; omega), Nat.le_refl _, by rw [sz_alloc]; omega, (Below.refl _ _).alloc (Nat.le_refl _) _⟩
theorem split_impl (l : List UInt8) (c : UInt8) (w : World) (hE : Env w) (hl : l.length ≤ 1048576) :
    Calls Tryd.prog 58 #[.string (str l), .string ⟨#[c]⟩] w (RetSplit (splitL c l) w) :=
  (split_impl2 l c w hE hl).mono fun e w' ⟨b, he, hr, hb, _, hw⟩ => ⟨_, _, he, hr, fun a ha => by cases ha; exact hb, hw⟩
/-- The words behind the first one, wherever the slice expression points. -/
theorem rd_tail {w : World} {B b : Nat} {xs : List (List UInt8)} (r : RdS w B (some ⟨b, 0, none⟩) (xs.map Bs.mk)) : RdS w B (some ⟨b, 1, none⟩) (xs.tail.map Bs.mk) := fun k x hx => by
  have hx' : (xs.map Bs.mk)[k + 1]? = some x := by
    rw [List.getElem?_map] at hx ⊢
    rw [← hx, List.getElem?_tail]
  obtain ⟨b', o, cs, e, hb, hr, hc⟩ := r (k + 1) x hx'
  cases e
  refine ⟨b, 1, cs, rfl, hb, hr, fun j u hu => ?_⟩
  have := hc j u hu
  rw [show 0 + ((k + 1) * Cod.size Bs + j) = 1 + (k * Cod.size Bs + j) by simp [Cod.size]; omega] at this
  exact this
end Go.Proofs.YtelmooaenodfaaaDoor
