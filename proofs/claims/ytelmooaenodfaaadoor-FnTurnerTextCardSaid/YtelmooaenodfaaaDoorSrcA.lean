/-
  The source of draws: bytes, a place, a seed. One draw of a byte. Conditions: those in each statement.
-/
import Derived.Test.YtelmooaenodfaaaDoorLaw
import Derived.Test.YtelmooaenodfaaaDoorTnTxt2
import Derived.Laws.Bits64
import Derived.Laws.Bits64b
set_option linter.unusedVariables false
set_option linter.unusedSimpArgs false
set_option maxRecDepth 100000
set_option maxHeartbeats 1000000
namespace Go.Proofs.YtelmooaenodfaaaDoor
open Go.RowKit Go.ChangeShapes Go.WideShapes Go.Deep Go.Joins Go.ChangeAt

/-- A byte, as an element of a slice. -/
structure U8 where
  n : Nat
  lt : n < 256
instance : Cod U8 := ⟨1, fun _ _ z cs => cs = [.int .u8 (z.n : Int)], fun h => by simp [h], fun _ h => h, fun _ h => h, fun _ z cs bs => cs = [.int .u8 (z.n : Int)] ∧ bs = [], fun _ h => h, fun h _ => h.1, by decide, fun _ => 1, fun _ => 0, fun _ z => z⟩
theorem RdS.u8 {w : World} {B : Nat} {A : Option Addr} {k : Nat} {xs : List U8} (h : RdS w B A xs) {x : U8} (hx : xs[k]? = some x) : ∃ b o, A = some ⟨b, o, none⟩ ∧ b < B ∧ w.cell? ⟨b, o + k, none⟩ = some (.int .u8 (x.n : Int)) := by
  obtain ⟨b, o, cs, e, hb, rfl, hc⟩ := h k x hx
  exact ⟨b, o, e, hb, by simpa [Cod.size] using hc 0 _ rfl⟩
theorem reads_u8 {P : Program} {t : TypeId} (ht : P.underlying t = some (.int .u8)) (hc : P.cellsOf t = 1) : Reads P t U8 := ⟨hc, fun H enc w base spare held fuel cs x h => by
  obtain ⟨n, rfl, _, hw⟩ := DataW.trod_int ht h
  have hw : 0 ≤ n ∧ n < 256 := by
    simp [Lit.wf, IntKind.min, IntKind.max, IntKind.bits, IntKind.signed] at hw
    omega
  exact ⟨⟨n.toNat, by omega⟩, by show _ = _; rw [Int.toNat_of_nonneg hw.1]⟩⟩
theorem readsBytes : Reads Tryd.prog 66 (List U8) := reads_slice Tryd.underlying66 (reads_u8 Tryd.underlying5 (by kernel_rfl)) (by kernel_rfl)
theorem open_u8s {H : Type} {enc : TypeId × Value → H} {W : World} {base : Nat} {v : Value} {d : DataW H} {p : List MemPlace} (hv : Value.okWide Tryd.prog W .any base 66 v) (h : DataW.Trod enc Tryd.prog W 0 (fun _ => true) true 66 v d p) :
    ∃ (xs : List U8) (A : Option Addr) (c : Nat), v = .slice A xs.length c ∧ xs.length ≤ 9223372036854775807 ∧ RdS W W.heap.size A xs := by
  obtain ⟨fuel, hf⟩ := h
  obtain ⟨l, A, c, e, hl, hA⟩ := readsBytes.2 _ _ _ _ _ _ _ _ _ hf
  obtain ⟨B, n, m, rfl⟩ := okWide_slice Tryd.underlying66 hv
  simp [Value.cells] at e
  obtain ⟨rfl, rfl, rfl⟩ := e
  exact ⟨l, B, m, rfl, hl, hA⟩

/-- The source at block S, from which at most M bytes have been drawn. -/
def Src (w : World) (S M : Nat) : Prop :=
  ∃ (A : Option Addr) (c k : Nat) (x : Int) (code : List U8), w.heap[S]? = some (.cells #[.slice A code.length c, .int .i64 k, .int .u64 x] 167 (0, 0)) ∧ k ≤ M ∧ 0 ≤ x ∧ x < 18446744073709551616 ∧ RdS w S A code ∧ code.length ≤ 3000
theorem Src.keep {w w' : World} {S M : Nat} (h : Src w S M) (hk : ∀ g, g ≤ S → w'.heap[g]? = w.heap[g]?) : Src w' S M := by
  obtain ⟨A, c, k, x, code, h1, h2, h3, h4, h5, h6⟩ := h
  exact ⟨A, c, k, x, code, (hk S (Nat.le_refl _)).trans h1, h2, h3, h4, h5.keep fun p hp => by unfold World.cell?; rw [hk p.block (by omega)], h6⟩
theorem Src.lt {w : World} {S M : Nat} (h : Src w S M) : S < w.heap.size := by
  obtain ⟨A, c, k, x, code, h1, _⟩ := h
  exact (Array.getElem?_eq_some_iff.1 h1).1
theorem Src.more {w : World} {S M M' : Nat} (h : Src w S M) (hM : M ≤ M') : Src w S M' := by
  obtain ⟨A, c, k, x, code, h1, h2, h3⟩ := h
  exact ⟨A, c, k, x, code, h1, by omega, h3⟩
theorem Src.up {w w' : World} {S M : Nat} (h : Src w S M) (hb : Below w.heap.size w w') : Src w' S M := h.keep fun g hg => hb.block g (Nat.lt_of_le_of_lt hg h.lt)

set_option maxHeartbeats 2000000 in
theorem next_spec (S M : Nat) (w : World) (h : Src w S M) (hM : M ≤ 1000000) :
    Calls Tryd.prog 132 #[.pointer (some ⟨S, 0, none⟩)] w fun e w' => ∃ v : Nat, e = .returned (.int .i64 (v : Int)) ∧ v < 256 ∧ Src w' S (M + 1) ∧ OnlyB [S] w w' := by
  obtain ⟨A, c, k, x, code, hS, hk, hx0, hx1, r, hl⟩ := h
  have q0 : w.cell? ⟨S, 0, none⟩ = some (.slice A code.length c) := cell_of_row w _ 0 _ _ (0, 0) hS
  have q1 : w.cell? ⟨S, 1, none⟩ = some (.int .i64 k) := cell_of_row w _ 1 _ _ (0, 0) hS
  have q2 : w.cell? ⟨S, 2, none⟩ = some (.int .u64 x) := cell_of_row w _ 2 _ _ (0, 0) hS
  have f1 : w.frozen? ⟨S, 1, none⟩ = false := blk_free hS
  have f2 : w.frozen? ⟨S, 2, none⟩ = false := blk_free hS
  have hSl : S < w.heap.size := (Array.getElem?_eq_some_iff.1 hS).1
  have HS := Lib.hid hS
  clear hS
  by_cases hlt : k < code.length
  · obtain ⟨z, hz⟩ := get_some hlt
    obtain ⟨b, o, rfl, hb, cz⟩ := r.u8 hz
    have hbl : b < w.heap.size := by omega
    have hzl := z.lt
    have i1 : (k : Int) < (code.length : Int) := by omega
    have i2 : (0 : Int) ≤ (k : Int) := by omega
    have hw : IntKind.i64.wrap (z.n : Int) = (z.n : Int) := by rw [IntKind.wrap_i64]; omega
    have hwk : IntKind.i64.wrap ((k : Int) + 1) = (k : Int) + 1 := by rw [IntKind.wrap_i64]; omega
    have i3 : (k : Int) + 1 ≤ (code.length : Int) := by omega
    go_enter Tryd.func132, Tryd.ntmps132
    go_wp2
    go_region
    go_wp2
    go_region
    go_wp2
    generalize hE : IntKind.u64.wrap (IntKind.u64.wrap (IntKind.u64.wrap (x * 6364136223846793005) + (z.n : Int)) + 1442695040888963407) = E
    have hE0 : 0 ≤ E ∧ E < 18446744073709551616 := by rw [← hE, IntKind.wrap_u64]; omega
    clear hE
    go_region
    go_wp2
    go_ret
    exact ⟨z.n, rfl, hzl, ⟨some ⟨b, o, none⟩, c, k + 1, E, code, blk_set (i := 2) (blk_set (i := 1) HS.out _) _, by omega, hE0.1, hE0.2, r.keep (fun p hp => World.cell?_of_block (by first | rfl | (show (World.setCell _ _ _).heap[_]? = _; rw [Below.heap_setCell _ _ _ _ (by simp; omega), Below.heap_setCell _ _ _ _ (by simp; omega)]))), hl⟩, (by repeat (first | with_reducible exact OnlyB.refl _ _ | with_reducible refine OnlyB.setCell ?_ (by simp) _ | with_reducible refine OnlyB.alloc ?_ _ | with_reducible refine OnlyB.drew ?_ | refine OnlyB.trans ?_ (OnlyB.of_below (by assumption) _)))⟩
  · have i1 : ¬ (k : Int) < (code.length : Int) := by omega
    have i2 : (0 : Int) ≤ (k : Int) := by omega
    have hwk : IntKind.i64.wrap ((k : Int) + 1) = (k : Int) + 1 := by rw [IntKind.wrap_i64]; omega
    have i3 : ¬ (k : Int) + 1 ≤ (code.length : Int) := by omega
    go_enter Tryd.func132, Tryd.ntmps132
    go_wp2
    go_region
    go_wp2
    generalize hE : IntKind.u64.wrap (IntKind.u64.wrap (IntKind.u64.wrap (x * 6364136223846793005)) + 1442695040888963407) = E
    have hE0 : 0 ≤ E ∧ E < 18446744073709551616 := by rw [← hE, IntKind.wrap_u64]; omega
    clear hE
    go_region
    go_wp2
    have hb : bits BinOp.and IntKind.u64 (E / 1099511627776) 255 = (((E / 1099511627776).toNat &&& 255 : Nat) : Int) := by
      have h1 := bits_and_u64_nat (E / 1099511627776).toNat 255 (by omega) (by omega)
      rwa [Int.toNat_of_nonneg (by omega)] at h1
    have hv : (E / 1099511627776).toNat &&& 255 < 2 ^ 8 := Nat.and_lt_two_pow _ (by decide)
    generalize (E / 1099511627776).toNat &&& 255 = v at hb hv
    have hv2 : wrap64 (v : Int) = (v : Int) := by unfold wrap64; omega
    rw [hb, hv2]
    go_ret
    exact ⟨v, rfl, by omega, ⟨A, c, k + 1, E, code, blk_set (i := 2) (blk_set (i := 1) HS.out _) _, by omega, hE0.1, hE0.2, r.keep (fun p hp => World.cell?_of_block (by first | rfl | (show (World.setCell _ _ _).heap[_]? = _; rw [Below.heap_setCell _ _ _ _ (by simp; omega), Below.heap_setCell _ _ _ _ (by simp; omega)]))), hl⟩, (by repeat (first | with_reducible exact OnlyB.refl _ _ | with_reducible refine OnlyB.setCell ?_ (by simp) _ | with_reducible refine OnlyB.alloc ?_ _ | with_reducible refine OnlyB.drew ?_ | refine OnlyB.trans ?_ (OnlyB.of_below (by assumption) _)))⟩
end Go.Proofs.YtelmooaenodfaaaDoor
