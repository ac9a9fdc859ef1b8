/-
  A set of pairs, kept as a map of bools that the call made. Conditions: those in each statement.
-/
import Derived.Test.YtpknkaidmefenaaMem
import Derived.Test.YtpknkaidmefenaaProg
import Derived.DeepKeys3
import Derived.MapKept
set_option linter.unusedVariables false
set_option linter.unusedSimpArgs false
set_option maxRecDepth 100000
set_option maxHeartbeats 1000000
namespace Go.Proofs.Ytpknkaidmefenaa
open Go.RowKit

def keyV (x : Int × Int) : Value := .agg #[.int .i64 x.1, .int .i64 x.2]
theorem pairLaw : WideMaps.KeyLaw Try.prog 57 := deep_law (m := 3) (by decide) (by kernel_rfl) (by kernel_rfl) (by kernel_rfl)
def SetAt (w : World) (b : Nat) (nodes : List (Int × Int)) : Prop := ∃ es clock, w.heap[b]? = some (.map es clock) ∧ es.toList.map (·.key) = nodes.map keyV ∧ ∀ e ∈ es.toList, e.val = .bool true
theorem keyOf_pair {a b : Int} (ha : 0 ≤ a ∧ a < 1000000) (hb : 0 ≤ b ∧ b < 1000000) : ∃ l, keyOf Try.prog 57 (keyV (a, b)) = some l := by
  have h1 : Try.prog.keyType 57 = true := by kernel_rfl
  have h2 : Try.prog.cellsOf 57 = 2 := by kernel_rfl
  have h3 : Try.prog.cellsOf 2 = 1 := by kernel_rfl
  obtain ⟨n, hn⟩ : ∃ n, Try.prog.types.size = n + 1 := ⟨_, (Nat.succ_pred_eq_of_pos (of_decide_eq_true (by kernel_rfl))).symm⟩
  have hf : (keyV (a, b)).formed Try.prog 57 = true := by
    unfold Value.formed
    simp [keyV, Try.underlying57, Try.underlying2, h2, h3]
  have w1 : (Lit.int IntKind.i64 a).wf = true := by simp [Lit.wf, IntKind.min, IntKind.max, IntKind.bits, IntKind.signed]; omega
  have w2 : (Lit.int IntKind.i64 b).wf = true := by simp [Lit.wf, IntKind.min, IntKind.max, IntKind.bits, IntKind.signed]; omega
  unfold keyOf
  rw [Try.underlying57]
  simp only [h1, hf, hn]
  simp [Program.keyLits, Try.underlying57, Try.underlying2, h2, h3, keyV, Value.cells, w1, w2, List.range_succ]
def PairOk (x : Int × Int) : Prop := (0 ≤ x.1 ∧ x.1 < 1000000) ∧ (0 ≤ x.2 ∧ x.2 < 1000000)
theorem SetAt.look {w : World} {b : Nat} {nodes : List (Int × Int)} (h : SetAt w b nodes) (hn : ∀ y ∈ nodes, PairOk y) {x : Int × Int} (hx : PairOk x) :
    (Instr.lookup 111 (.map (some b)) (keyV x) false).run Try.prog w = .ok (.bool (decide (x ∈ nodes))) w := by
  obtain ⟨es, clock, hb, hk, hv⟩ := h
  obtain ⟨lx, hlx⟩ := keyOf_pair (a := x.1) (b := x.2) hx.1 hx.2
  have hall : ∀ e ∈ es.toList, ∃ l, keyOf Try.prog 57 e.key = some l := fun e he => by
    have : e.key ∈ nodes.map keyV := by rw [← hk]; exact List.mem_map.2 ⟨e, he, rfl⟩
    obtain ⟨y, hy, e1⟩ := List.mem_map.1 this
    obtain ⟨l, hl⟩ := keyOf_pair (a := y.1) (b := y.2) (hn y hy).1 (hn y hy).2
    exact ⟨l, by rw [← e1]; exact hl⟩
  have hc := pairLaw.check w es.isEmpty hlx
  have hg := MapKept.run_getObj_map (P := Try.prog) hb
  have hz : (zeroValue 4).run Try.prog w = .ok (.bool false) w := rfl
  rcases pairLaw.find w hlx es.toList hall with ⟨h1, h2⟩ | ⟨j, e, h1, h2, h3⟩
  · have hd : decide (x ∈ nodes) = false := decide_eq_false fun hm => by
      have : keyV x ∈ es.toList.map (·.key) := by rw [hk]; exact List.mem_map.2 ⟨x, hm, rfl⟩
      obtain ⟨e, he, e1⟩ := List.mem_map.1 this
      exact h2 e he e1
    rw [hd]
    simp [Instr.lookup, run_underlying Try.underlying111, hg, hc, h1, hz, Result.andThen]
    done
  · have hd : decide (x ∈ nodes) = true := decide_eq_true (by
      have : e.key ∈ nodes.map keyV := by rw [← hk]; exact List.mem_map.2 ⟨e, List.mem_of_getElem? h2, rfl⟩
      obtain ⟨y, hy, e1⟩ := List.mem_map.1 this
      rw [h3] at e1
      have : y = x := by
        obtain ⟨y1, y2⟩ := y
        obtain ⟨x1, x2⟩ := x
        simpa [keyV] using e1
      rwa [this] at hy)
    rw [hd]
    have hv1 := hv e (List.mem_of_getElem? h2)
    simp [Instr.lookup, run_underlying Try.underlying111, hg, hc, h1, hz, hv1, Result.andThen]
    done
theorem SetAt.put {w : World} {b : Nat} {nodes : List (Int × Int)} (h : SetAt w b nodes) (hn : ∀ y ∈ nodes, PairOk y) {x : Int × Int} (hx : PairOk x) (hnew : x ∉ nodes) :
    ∃ w', (Instr.mapUpdate 111 (.map (some b)) (keyV x) (.bool true)).run Try.prog w = .ok () w' ∧ SetAt w' b (nodes ++ [x]) ∧ OnlyB [b] w w' := by
  obtain ⟨es, clock, hb, hk, hv⟩ := h
  obtain ⟨lx, hlx⟩ := keyOf_pair (a := x.1) (b := x.2) hx.1 hx.2
  have hall : ∀ e ∈ es.toList, ∃ l, keyOf Try.prog 57 e.key = some l := fun e he => by
    have : e.key ∈ nodes.map keyV := by rw [← hk]; exact List.mem_map.2 ⟨e, he, rfl⟩
    obtain ⟨y, hy, e1⟩ := List.mem_map.1 this
    obtain ⟨l, hl⟩ := keyOf_pair (a := y.1) (b := y.2) (hn y hy).1 (hn y hy).2
    exact ⟨l, by rw [← e1]; exact hl⟩
  have hc := pairLaw.check w false hlx
  have hg := MapKept.run_getObj_map (P := Try.prog) hb
  have hbl : b < w.heap.size := (Array.getElem?_eq_some_iff.1 hb).1
  rcases pairLaw.find w hlx es.toList hall with ⟨h1, h2⟩ | ⟨j, e, h1, h2, h3⟩
  · refine ⟨{ w with heap := w.heap.setIfInBounds b (.map (es.push { key := keyV x, val := .bool true, born := clock }) (clock + 1)) }, ?_, ⟨es.push { key := keyV x, val := .bool true, born := clock }, clock + 1, ?_, ?_, ?_⟩, ⟨rfl, rfl, rfl, by simp, fun g hg hgb => ?_⟩⟩
    · simp [Instr.mapUpdate, run_underlying Try.underlying111, hg, hc, h1, Result.andThen]
      have hbe := (Array.getElem?_eq_some_iff.1 hb).2
      simp [setObj, Sem.run, hbl, Array.setIfInBounds, hbe]
    · simp [hbl]
    · simp [hk]
    · intro e he
      rw [Array.toList_push] at he
      rcases List.mem_append.1 he with he | he
      · exact hv e he
      · obtain rfl := List.mem_singleton.1 he
        rfl
    · have hne : b ≠ g := fun e => hgb (by simp [e])
      simp [hne]
  · exfalso
    have : e.key ∈ nodes.map keyV := by rw [← hk]; exact List.mem_map.2 ⟨e, List.mem_of_getElem? h2, rfl⟩
    obtain ⟨y, hy, e1⟩ := List.mem_map.1 this
    rw [h3] at e1
    have : y = x := by
      obtain ⟨y1, y2⟩ := y
      obtain ⟨x1, x2⟩ := x
      simpa [keyV] using e1
    exact hnew (this ▸ hy)
end Go.Proofs.Ytpknkaidmefenaa
