/-
  Numbers of one to nine digits, read by the reference. Conditions: those in each statement.
-/
import Derived.Test.YtelmooaenodfaaaDoorSpl2
set_option linter.unusedVariables false
set_option linter.unusedSimpArgs false
set_option maxRecDepth 100000
set_option maxHeartbeats 1000000
namespace Go.Proofs.YtelmooaenodfaaaDoor
open Go.RowKit

def digB (b : UInt8) : Bool := decide (48 ≤ b.toNat) && decide (b.toNat ≤ 57)
def valL (l : List UInt8) : Nat := l.foldl (fun n b => n * 10 + (b.toNat - 48)) 0
def numL (l : List UInt8) : Option Nat := if l.length < 1 ∨ 9 < l.length ∨ (l[0]? = some 48 ∧ 1 < l.length) then none else if l.all digB = true then some (valL l) else none
theorem digB_iff {b : UInt8} : digB b = true ↔ 48 ≤ b.toNat ∧ b.toNat ≤ 57 := by unfold digB; simp
theorem valL_snoc {l : List UInt8} {k : Nat} {b : UInt8} (h : l[k]? = some b) : valL (l.take (k + 1)) = valL (l.take k) * 10 + (b.toNat - 48) := by
  unfold valL
  rw [List.take_add_one, h, List.foldl_append]
  rfl
theorem valL_bound (l : List UInt8) (hd : l.all digB = true) : valL l < 10 ^ l.length := by
  have key : ∀ k, k ≤ l.length → valL (l.take k) < 10 ^ k := by
    intro k
    induction k with
    | zero => intro _; simp [valL]
    | succ k ih =>
      intro hk
      have h := ih (by omega)
      obtain ⟨b, hb⟩ := get_some (xs := l) (k := k) (by omega)
      have hb2 := digB_iff.1 (List.all_eq_true.1 hd b (List.mem_of_getElem? hb))
      rw [valL_snoc hb, Nat.pow_succ]
      omega
  have := key l.length (Nat.le_refl _)
  rwa [List.take_length] at this
theorem take_all {l : List UInt8} {k : Nat} {b : UInt8} (h : l[k]? = some b) : (l.take (k + 1)).all digB = ((l.take k).all digB && digB b) := by
  rw [List.take_add_one, h]
  simp

set_option maxHeartbeats 4000000 in
theorem number_spec (l : List UInt8) (w : World) (hl : l.length ≤ 1048576) :
    Calls Tryd.prog 98 #[.string (str l)] w fun e w' => e = .returned (.tuple #[.int .i64 ((numL l).getD 0 : Nat), .bool (numL l).isSome]) ∧ w = w' := by
  have hsz := str_size l
  have us : ¬ 9223372036854775807 < (str l).size := by rw [str_size]; omega
  by_cases hA : l.length < 1
  · have hn : numL l = none := by unfold numL; rw [if_pos (.inl hA)]
    rw [hn]
    clear hn
    have i1 : (l.length : Int) < 1 := by omega
    go_enter Tryd.func98, Tryd.ntmps98
    go_wp2
    go_ret2
    exact ⟨rfl, rfl⟩
  · by_cases hB : 9 < l.length
    · have hn : numL l = none := by unfold numL; rw [if_pos (.inr (.inl hB))]
      rw [hn]
      clear hn
      have i1 : ¬ (l.length : Int) < 1 := by omega
      have i2 : (9 : Int) < (l.length : Int) := by omega
      go_enter Tryd.func98, Tryd.ntmps98
      go_wp2
      go_ret2
      exact ⟨rfl, rfl⟩
    · have i1 : ¬ (l.length : Int) < 1 := by omega
      have i2 : ¬ (9 : Int) < (l.length : Int) := by omega
      obtain ⟨b0, hb0⟩ := get_some (xs := l) (k := 0) (by omega)
      have x0 : ∀ W, (Instr.index 9 (.string (str l)) (.int .i64 0)).run Tryd.prog W = .ok (.int .u8 (b0.toNat : Int)) W := fun W => idx_str (P := Tryd.prog) Tryd.underlying9 hb0 W
      by_cases hC : b0 = 48 ∧ 1 < l.length
      · have hn : numL l = none := by unfold numL; rw [if_pos (.inr (.inr ⟨by rw [hb0, hC.1], hC.2⟩))]
        rw [hn]
        have q1 : ((b0.toNat : Int) == 48) = true := by rw [hC.1]; rfl
        have i3 : (1 : Int) < (l.length : Int) := by omega
        clear hn hC hb0
        go_enter Tryd.func98, Tryd.ntmps98
        go_wp2
        go_ret2
        exact ⟨rfl, rfl⟩
      · have hn : numL l = if l.all digB = true then some (valL l) else none := by
          unfold numL
          rw [if_neg]
          rintro (h | h | ⟨h, h2⟩)
          · exact hA h
          · exact hB h
          · rw [hb0] at h
            exact hC ⟨Option.some.inj h, h2⟩
        have HN := Lib.hid hn
        have hb9 : l.length ≤ 9 := by omega
        have hlen : 1 ≤ l.length := by omega
        have loop : ∀ (wL : World), True := fun _ => trivial
        clear hn loop
        by_cases hq : b0 = 48
        · have q1 : ((b0.toNat : Int) == 48) = true := by rw [hq]; rfl
          have i3 : ¬ (1 : Int) < (l.length : Int) := fun h => hC ⟨hq, by omega⟩
          clear hq hC hb0 hA hB
          go_enter Tryd.func98, Tryd.ntmps98
          go_wp2
          go_loopw [4, 5] (fun n i wr => ∃ k : Nat, k ≤ l.length ∧ n = .int .i64 (valL (l.take k) : Nat) ∧ i = .int .i64 k ∧ Hid ((l.take k).all digB = true) ∧ w = wr) (fun _ i _ => l.length - (intOf i).toNat)
          case atStart => exact ⟨0, Nat.zero_le _, rfl, rfl, Lib.hid rfl, rfl⟩
          case round =>
            obtain ⟨k, hk, rfl, rfl, HD, rfl⟩ := hrel
            by_cases hlt : k < l.length
            · obtain ⟨b, hb⟩ := get_some hlt
              have x1 := fun W => idx_str (P := Tryd.prog) Tryd.underlying9 hb W
              have i4 : (k : Int) < (l.length : Int) := by omega
              have hv := valL_bound _ HD.out
              have hp : 10 ^ (l.take k).length ≤ 1000000000 := by
                have : (l.take k).length ≤ 9 := by rw [List.length_take]; omega
                exact Nat.le_trans (Nat.pow_le_pow_right (by omega) this) (by decide)
              have hv2 : valL (l.take k) < 1000000000 := by omega
              have HV := Lib.hid (valL_snoc hb)
              have HT := Lib.hid (take_all hb)
              have hbig : b.toNat < 256 := b.toNat_lt
              have HB := Lib.hid hb
              obtain ⟨v, hve⟩ : ∃ v, v = valL (l.take k) := ⟨_, rfl⟩
              rw [← hve] at HV hv2 ⊢
              clear hb hv hp hve
              by_cases h1 : b.toNat < 48
              · have j1 : (b.toNat : Int) < 48 := by omega
                have hf : Hid (l.all digB = false) := Lib.hid (by
                  rw [Bool.eq_false_iff]; intro h
                  have := digB_iff.1 (List.all_eq_true.1 h b (List.mem_of_getElem? HB.out)); omega)
                go_wp2
                go_ret2
                refine ⟨?_, rfl⟩
                rw [HN.out, if_neg (by rw [hf.out]; simp)]
                rfl
              · by_cases h2 : 57 < b.toNat
                · have j1 : ¬ (b.toNat : Int) < 48 := by omega
                  have j2 : (57 : Int) < (b.toNat : Int) := by omega
                  have hf : Hid (l.all digB = false) := Lib.hid (by
                    rw [Bool.eq_false_iff]; intro h
                    have := digB_iff.1 (List.all_eq_true.1 h b (List.mem_of_getElem? HB.out)); omega)
                  go_wp2
                  go_ret2
                  refine ⟨?_, rfl⟩
                  rw [HN.out, if_neg (by rw [hf.out]; simp)]
                  rfl
                · have j1 : ¬ (b.toNat : Int) < 48 := by omega
                  have j2 : ¬ (57 : Int) < (b.toNat : Int) := by omega
                  go_wp2
                  go_roundw
                  case rel => exact ⟨k + 1, by omega, by rw [HV.out]; go_num, by go_num, Lib.hid (by rw [HT.out, HD.out, digB_iff.2 ⟨by omega, by omega⟩]; rfl), trivial⟩
                  case measure => simp [intOf]; omega
            · obtain rfl : k = l.length := by omega
              have HD2 := HD.out
              rw [List.take_length] at HD2
              have HD2 := Lib.hid HD2
              go_wp2
              go_ret2
              refine ⟨?_, rfl⟩
              rw [HN.out, if_pos HD2.out, List.take_length]
              rfl
        · have q1 : ((b0.toNat : Int) == 48) = false := by
            simp only [beq_eq_false_iff_ne, ne_eq]
            intro h
            exact hq (UInt8.toNat_inj.1 (by rw [show (48 : UInt8).toNat = 48 from rfl]; omega))
          clear hq hC hb0 hA hB
          go_enter Tryd.func98, Tryd.ntmps98
          go_wp2
          go_loopw [4, 5] (fun n i wr => ∃ k : Nat, k ≤ l.length ∧ n = .int .i64 (valL (l.take k) : Nat) ∧ i = .int .i64 k ∧ Hid ((l.take k).all digB = true) ∧ w = wr) (fun _ i _ => l.length - (intOf i).toNat)
          case atStart => exact ⟨0, Nat.zero_le _, rfl, rfl, Lib.hid rfl, rfl⟩
          case round =>
            obtain ⟨k, hk, rfl, rfl, HD, rfl⟩ := hrel
            by_cases hlt : k < l.length
            · obtain ⟨b, hb⟩ := get_some hlt
              have x1 := fun W => idx_str (P := Tryd.prog) Tryd.underlying9 hb W
              have i4 : (k : Int) < (l.length : Int) := by omega
              have hv := valL_bound _ HD.out
              have hp : 10 ^ (l.take k).length ≤ 1000000000 := by
                have : (l.take k).length ≤ 9 := by rw [List.length_take]; omega
                exact Nat.le_trans (Nat.pow_le_pow_right (by omega) this) (by decide)
              have hv2 : valL (l.take k) < 1000000000 := by omega
              have HV := Lib.hid (valL_snoc hb)
              have HT := Lib.hid (take_all hb)
              have hbig : b.toNat < 256 := b.toNat_lt
              have HB := Lib.hid hb
              obtain ⟨v, hve⟩ : ∃ v, v = valL (l.take k) := ⟨_, rfl⟩
              rw [← hve] at HV hv2 ⊢
              clear hb hv hp hve
              by_cases h1 : b.toNat < 48
              · have j1 : (b.toNat : Int) < 48 := by omega
                have hf : Hid (l.all digB = false) := Lib.hid (by
                  rw [Bool.eq_false_iff]; intro h
                  have := digB_iff.1 (List.all_eq_true.1 h b (List.mem_of_getElem? HB.out)); omega)
                go_wp2
                go_ret2
                refine ⟨?_, rfl⟩
                rw [HN.out, if_neg (by rw [hf.out]; simp)]
                rfl
              · by_cases h2 : 57 < b.toNat
                · have j1 : ¬ (b.toNat : Int) < 48 := by omega
                  have j2 : (57 : Int) < (b.toNat : Int) := by omega
                  have hf : Hid (l.all digB = false) := Lib.hid (by
                    rw [Bool.eq_false_iff]; intro h
                    have := digB_iff.1 (List.all_eq_true.1 h b (List.mem_of_getElem? HB.out)); omega)
                  go_wp2
                  go_ret2
                  refine ⟨?_, rfl⟩
                  rw [HN.out, if_neg (by rw [hf.out]; simp)]
                  rfl
                · have j1 : ¬ (b.toNat : Int) < 48 := by omega
                  have j2 : ¬ (57 : Int) < (b.toNat : Int) := by omega
                  go_wp2
                  go_roundw
                  case rel => exact ⟨k + 1, by omega, by rw [HV.out]; go_num, by go_num, Lib.hid (by rw [HT.out, HD.out, digB_iff.2 ⟨by omega, by omega⟩]; rfl), trivial⟩
                  case measure => simp [intOf]; omega
            · obtain rfl : k = l.length := by omega
              have HD2 := HD.out
              rw [List.take_length] at HD2
              have HD2 := Lib.hid HD2
              go_wp2
              go_ret2
              refine ⟨?_, rfl⟩
              rw [HN.out, if_pos HD2.out, List.take_length]
              rfl
end Go.Proofs.YtelmooaenodfaaaDoor
