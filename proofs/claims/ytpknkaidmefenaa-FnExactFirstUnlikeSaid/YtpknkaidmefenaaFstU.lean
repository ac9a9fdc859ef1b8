/-
  Contracts of the program's and the reference's FirstUnlike. Conditions: those in each statement.
-/
import Derived.Test.YtpknkaidmefenaaTxtI
import Derived.Test.YtpknkaidmefenaaFstS
import Derived.Test.YtpknkaidmefenaaTidyS
import Derived.Test.YtpknkaidmefenaaVReader
set_option linter.unusedVariables false
set_option linter.unusedSimpArgs false
set_option maxRecDepth 100000
set_option maxHeartbeats 1000000
namespace Go.Proofs.Ytpknkaidmefenaa
open Go.RowKit

def ansS : Option (List Nat) → ByteArray
  | some u => if 60 < u.length then ⟨#[]⟩ else wstr u
  | none => ⟨#[]⟩
def ansC : Option (List Nat) → Int
  | some u => if 60 < u.length then 3 else 0
  | none => 6
theorem ansV_eq (o : Option (List Nat)) : ansV o = .tuple #[.string (ansS o), .int .i64 (ansC o)] := by
  cases o with
  | none => rfl
  | some u =>
    by_cases h : 60 < u.length
    · simp only [ansV, ansS, ansC, if_pos h]
    · simp only [ansV, ansS, ansC, if_neg h]
/-- What FirstUnlike answers. -/
def UnlOf (T U : Rr) (s : ByteArray) (c : Int) : Prop := if T.okB = true ∧ U.okB = true then (if T.letters = U.letters then ∃ o, FirstOf T U o ∧ s = ansS o ∧ c = ansC o else s = ⟨#[]⟩ ∧ c = 2) else s = ⟨#[]⟩ ∧ c = 1
theorem UnlOf.same {T U : Rr} {s s' : ByteArray} {c c' : Int} (h : UnlOf T U s c) (h' : UnlOf T U s' c') : s = s' ∧ c = c' := by
  unfold UnlOf at h h'
  by_cases h1 : T.okB = true ∧ U.okB = true
  · rw [if_pos h1] at h h'
    by_cases h2 : T.letters = U.letters
    · rw [if_pos h2] at h h'
      obtain ⟨o, f, rfl, rfl⟩ := h
      obtain ⟨o', f', rfl, rfl⟩ := h'
      have := firstOf_same (fun u _ => rfl) rfl f f'
      subst this
      exact ⟨rfl, rfl⟩
    · rw [if_neg h2] at h h'
      exact ⟨h.1.trans h'.1.symm, h.2.trans h'.2.symm⟩
  · rw [if_neg h1] at h h'
    exact ⟨h.1.trans h'.1.symm, h.2.trans h'.2.symm⟩
def RetUnl (T U : Rr) (w : World) (e : Ending) (w' : World) : Prop := ∃ s c, UnlOf T U s c ∧ e = .returned (.tuple #[.string s, .int .i64 c]) ∧ Below w.heap.size w w'

theorem firstWord_impl (b b' : Nat) (T U : Rr) (w : World) (h : AtRr w b T) (h' : AtRr w b' U) (OK : T.Ok) (OK' : U.Ok) (hlet : U.letters = T.letters) :
    Calls Try.prog 25 #[.int .i64 T.letters, .agg #[.int .i64 T.start, .int .i64 U.start], .func (.func 26) #[] #[.pointer (some ⟨b, 0, none⟩), .pointer (some ⟨b', 0, none⟩)], .func (.func 27) #[] #[.pointer (some ⟨b, 0, none⟩), .pointer (some ⟨b', 0, none⟩)]] w (RetFirst T U w) := by
  have HFT := Lib.hid (fun W (hb : Below w.heap.size w W) => firstText_impl b b' T U W (h.up hb) (h'.up hb) OK OK' hlet)
  clear h h' OK OK' hlet
  go_enter Try.func25, Try.ntmps25
  go_wp2_with fail
  refine (HFT.out _ (by repeat (first | exact Below.refl _ _ | refine Below.alloc ?_ (by first | omega | (simp only [sz_alloc, sz_set, sz_drew, sz_drewN]; omega) | (simp only [sz_alloc, sz_set, sz_drew, sz_drewN] at *; omega)) _ | refine Below.setCell ?_ (by first | omega | (simp only [sz_alloc, sz_set, sz_drew, sz_drewN]; omega) | (simp only [sz_alloc, sz_set, sz_drew, sz_drewN] at *; omega)) _ | refine Below.drew ?_ | refine below_drewN_ ?_ _))).mono ?_
  rintro e w1 ⟨o, hF, hl, rfl, hb1⟩
  have HBw1 : Since w w1 := ⟨below_cat (by repeat (first | exact Below.refl _ _ | exact Since.out (by assumption) | refine Below.alloc ?_ (by first | omega | (simp only [sz_alloc, sz_set, sz_drew, sz_drewN]; omega) | (simp only [sz_alloc, sz_set, sz_drew, sz_drewN] at *; omega)) _ | refine Below.setCell ?_ (by first | omega | (simp only [sz_alloc, sz_set, sz_drew, sz_drewN]; omega) | (simp only [sz_alloc, sz_set, sz_drew, sz_drewN] at *; omega)) _ | refine Below.drew ?_ | refine below_drewN_ ?_ _)) hb1 (by first | omega | (simp only [sz_alloc, sz_set, sz_drew, sz_drewN]; omega) | (simp only [sz_alloc, sz_set, sz_drew, sz_drewN] at *; omega))⟩; have hzw1 := hb1.size; (try simp only [sz_alloc, sz_set, sz_drew, sz_drewN] at hzw1); have hcw1k0 := fun o => hb1.cell (p := ⟨w.heap.size, o, none⟩) (by first | omega | (simp only [sz_alloc, sz_set, sz_drew, sz_drewN]; omega) | (simp only [sz_alloc, sz_set, sz_drew, sz_drewN] at *; omega)); have hfw1k0 := fun o => hb1.frozen (p := ⟨w.heap.size, o, none⟩) (by first | omega | (simp only [sz_alloc, sz_set, sz_drew, sz_drewN]; omega) | (simp only [sz_alloc, sz_set, sz_drew, sz_drewN] at *; omega)); have hlw1k0 : w.heap.size < w1.heap.size := (by first | omega | (simp only [sz_alloc, sz_set, sz_drew, sz_drewN]; omega) | (simp only [sz_alloc, sz_set, sz_drew, sz_drewN] at *; omega))
  have HF := Lib.hid hF
  have HV := Lib.hid (ansV_eq o)
  cases o with
  | none =>
    clear hF hl
    simp only [txtV]
    go_wp2
    go_ret2
    exact ⟨none, HF.out, rfl, HBw1.out⟩
  | some u =>
    have hlu := hl u rfl
    have us : ¬ 9223372036854775807 < (wstr u).size := by rw [wstr_size]; omega
    have hsz := wstr_size u
    simp only [txtV]
    by_cases h60 : 60 < u.length
    · have j6 : (60 : Int) < ((wstr u).size : Int) := by omega
      have HW : Hid (ansV (some u) = .tuple #[.string ⟨#[]⟩, .int .i64 3]) := Lib.hid (by simp only [ansV]; rw [if_pos h60])
      clear hF hl hsz h60
      go_wp2
      go_ret2
      exact ⟨some u, HF.out, by rw [HW.out]; rfl, HBw1.out⟩
    · have j6 : ¬ (60 : Int) < ((wstr u).size : Int) := by omega
      have HW : Hid (ansV (some u) = .tuple #[.string (wstr u), .int .i64 0]) := Lib.hid (by simp only [ansV]; rw [if_neg h60])
      clear hF hl hsz h60
      go_wp2
      go_ret2
      exact ⟨some u, HF.out, by rw [HW.out]; rfl, HBw1.out⟩

theorem firstUnlike_impl (v v' : Value) (T U : Rr) (w : World) (h1 : RdRr w w.heap.size v T) (h2 : RdRr w w.heap.size v' U) (n1 : T.tot ≤ 1048576) (n2 : U.tot ≤ 1048576) :
    Calls Try.prog 8 #[v, v'] w (RetUnl T U w) := by
  obtain ⟨A1, c1, A2, c2, rfl, r1, r2⟩ := h1
  obtain ⟨E1, d1, E2, d2, rfl, s1, s2⟩ := h2
  go_enter Try.func8, Try.ntmps8
  go_wp2_with fail
  refine (validReader_impl _ T _ ⟨A1, c1, A2, c2, rfl, r1.up (by repeat (first | exact Below.refl _ _ | refine Below.alloc ?_ (by first | omega | (simp only [sz_alloc, sz_set, sz_drew, sz_drewN]; omega) | (simp only [sz_alloc, sz_set, sz_drew, sz_drewN] at *; omega)) _ | refine Below.setCell ?_ (by first | omega | (simp only [sz_alloc, sz_set, sz_drew, sz_drewN]; omega) | (simp only [sz_alloc, sz_set, sz_drew, sz_drewN] at *; omega)) _ | refine Below.drew ?_ | refine below_drewN_ ?_ _)), r2.up (by repeat (first | exact Below.refl _ _ | refine Below.alloc ?_ (by first | omega | (simp only [sz_alloc, sz_set, sz_drew, sz_drewN]; omega) | (simp only [sz_alloc, sz_set, sz_drew, sz_drewN] at *; omega)) _ | refine Below.setCell ?_ (by first | omega | (simp only [sz_alloc, sz_set, sz_drew, sz_drewN]; omega) | (simp only [sz_alloc, sz_set, sz_drew, sz_drewN] at *; omega)) _ | refine Below.drew ?_ | refine below_drewN_ ?_ _))⟩ n1).mono ?_
  rintro e w1 ⟨rfl, hb1⟩
  have HBw1 : Since w w1 := ⟨below_cat (by repeat (first | exact Below.refl _ _ | exact Since.out (by assumption) | refine Below.alloc ?_ (by first | omega | (simp only [sz_alloc, sz_set, sz_drew, sz_drewN]; omega) | (simp only [sz_alloc, sz_set, sz_drew, sz_drewN] at *; omega)) _ | refine Below.setCell ?_ (by first | omega | (simp only [sz_alloc, sz_set, sz_drew, sz_drewN]; omega) | (simp only [sz_alloc, sz_set, sz_drew, sz_drewN] at *; omega)) _ | refine Below.drew ?_ | refine below_drewN_ ?_ _)) hb1 (by first | omega | (simp only [sz_alloc, sz_set, sz_drew, sz_drewN]; omega) | (simp only [sz_alloc, sz_set, sz_drew, sz_drewN] at *; omega))⟩; have hzw1 := hb1.size; (try simp only [sz_alloc, sz_set, sz_drew, sz_drewN] at hzw1); have hcw1k0 := fun o => hb1.cell (p := ⟨w.heap.size, o, none⟩) (by first | omega | (simp only [sz_alloc, sz_set, sz_drew, sz_drewN]; omega) | (simp only [sz_alloc, sz_set, sz_drew, sz_drewN] at *; omega)); have hfw1k0 := fun o => hb1.frozen (p := ⟨w.heap.size, o, none⟩) (by first | omega | (simp only [sz_alloc, sz_set, sz_drew, sz_drewN]; omega) | (simp only [sz_alloc, sz_set, sz_drew, sz_drewN] at *; omega)); have hlw1k0 : w.heap.size < w1.heap.size := (by first | omega | (simp only [sz_alloc, sz_set, sz_drew, sz_drewN]; omega) | (simp only [sz_alloc, sz_set, sz_drew, sz_drewN] at *; omega)); have hcw1k1 := fun o => hb1.cell (p := ⟨w.heap.size + 1, o, none⟩) (by first | omega | (simp only [sz_alloc, sz_set, sz_drew, sz_drewN]; omega) | (simp only [sz_alloc, sz_set, sz_drew, sz_drewN] at *; omega)); have hfw1k1 := fun o => hb1.frozen (p := ⟨w.heap.size + 1, o, none⟩) (by first | omega | (simp only [sz_alloc, sz_set, sz_drew, sz_drewN]; omega) | (simp only [sz_alloc, sz_set, sz_drew, sz_drewN] at *; omega)); have hlw1k1 : w.heap.size + 1 < w1.heap.size := (by first | omega | (simp only [sz_alloc, sz_set, sz_drew, sz_drewN]; omega) | (simp only [sz_alloc, sz_set, sz_drew, sz_drewN] at *; omega))
  cases hT : T.okB with
  | false =>
    have HV : Hid (UnlOf T U ⟨#[]⟩ 1) := Lib.hid (by unfold UnlOf; rw [if_neg (by rw [hT]; simp)]; exact ⟨rfl, rfl⟩)
    clear hT
    go_wp2
    go_ret2
    exact ⟨_, _, HV.out, rfl, HBw1.out⟩
  | true =>
    have HT := Lib.hid hT
    clear hT
    go_wp2_with fail
    refine (validReader_impl _ U _ ⟨E1, d1, E2, d2, rfl, s1.up (by repeat (first | exact Below.refl _ _ | exact Since.out (by assumption) | refine Below.alloc ?_ (by first | omega | (simp only [sz_alloc, sz_set, sz_drew, sz_drewN]; omega) | (simp only [sz_alloc, sz_set, sz_drew, sz_drewN] at *; omega)) _ | refine Below.setCell ?_ (by first | omega | (simp only [sz_alloc, sz_set, sz_drew, sz_drewN]; omega) | (simp only [sz_alloc, sz_set, sz_drew, sz_drewN] at *; omega)) _ | refine Below.drew ?_ | refine below_drewN_ ?_ _)), s2.up (by repeat (first | exact Below.refl _ _ | exact Since.out (by assumption) | refine Below.alloc ?_ (by first | omega | (simp only [sz_alloc, sz_set, sz_drew, sz_drewN]; omega) | (simp only [sz_alloc, sz_set, sz_drew, sz_drewN] at *; omega)) _ | refine Below.setCell ?_ (by first | omega | (simp only [sz_alloc, sz_set, sz_drew, sz_drewN]; omega) | (simp only [sz_alloc, sz_set, sz_drew, sz_drewN] at *; omega)) _ | refine Below.drew ?_ | refine below_drewN_ ?_ _))⟩ n2).mono ?_
    rintro e w2 ⟨rfl, hb2⟩
    have HBw2 : Since w w2 := ⟨below_cat (by repeat (first | exact Below.refl _ _ | exact Since.out (by assumption) | refine Below.alloc ?_ (by first | omega | (simp only [sz_alloc, sz_set, sz_drew, sz_drewN]; omega) | (simp only [sz_alloc, sz_set, sz_drew, sz_drewN] at *; omega)) _ | refine Below.setCell ?_ (by first | omega | (simp only [sz_alloc, sz_set, sz_drew, sz_drewN]; omega) | (simp only [sz_alloc, sz_set, sz_drew, sz_drewN] at *; omega)) _ | refine Below.drew ?_ | refine below_drewN_ ?_ _)) hb2 (by first | omega | (simp only [sz_alloc, sz_set, sz_drew, sz_drewN]; omega) | (simp only [sz_alloc, sz_set, sz_drew, sz_drewN] at *; omega))⟩; have hzw2 := hb2.size; (try simp only [sz_alloc, sz_set, sz_drew, sz_drewN] at hzw2); have hcw2k0 := fun o => hb2.cell (p := ⟨w.heap.size, o, none⟩) (by first | omega | (simp only [sz_alloc, sz_set, sz_drew, sz_drewN]; omega) | (simp only [sz_alloc, sz_set, sz_drew, sz_drewN] at *; omega)); have hfw2k0 := fun o => hb2.frozen (p := ⟨w.heap.size, o, none⟩) (by first | omega | (simp only [sz_alloc, sz_set, sz_drew, sz_drewN]; omega) | (simp only [sz_alloc, sz_set, sz_drew, sz_drewN] at *; omega)); have hlw2k0 : w.heap.size < w2.heap.size := (by first | omega | (simp only [sz_alloc, sz_set, sz_drew, sz_drewN]; omega) | (simp only [sz_alloc, sz_set, sz_drew, sz_drewN] at *; omega)); have hcw2k1 := fun o => hb2.cell (p := ⟨w.heap.size + 1, o, none⟩) (by first | omega | (simp only [sz_alloc, sz_set, sz_drew, sz_drewN]; omega) | (simp only [sz_alloc, sz_set, sz_drew, sz_drewN] at *; omega)); have hfw2k1 := fun o => hb2.frozen (p := ⟨w.heap.size + 1, o, none⟩) (by first | omega | (simp only [sz_alloc, sz_set, sz_drew, sz_drewN]; omega) | (simp only [sz_alloc, sz_set, sz_drew, sz_drewN] at *; omega)); have hlw2k1 : w.heap.size + 1 < w2.heap.size := (by first | omega | (simp only [sz_alloc, sz_set, sz_drew, sz_drewN]; omega) | (simp only [sz_alloc, sz_set, sz_drew, sz_drewN] at *; omega))
    cases hU : U.okB with
    | false =>
      have HV : Hid (UnlOf T U ⟨#[]⟩ 1) := Lib.hid (by unfold UnlOf; rw [if_neg (by rw [hU]; simp)]; exact ⟨rfl, rfl⟩)
      clear hU
      go_wp2
      go_ret2
      exact ⟨_, _, HV.out, rfl, HBw2.out⟩
    | true =>
      have HU := Lib.hid hU
      clear hU
      by_cases hl : T.letters = U.letters
      · have ql : (T.letters != U.letters) = false := by rw [hl]; simp
        have HL := Lib.hid hl
        have hat : AtRr w2 w.heap.size T := ⟨by omega, A1, c1, A2, c2, by go_simp, by go_simp, by go_simp, by go_simp, r1.up (by repeat (first | exact Below.refl _ _ | exact Since.out (by assumption) | refine Below.alloc ?_ (by first | omega | (simp only [sz_alloc, sz_set, sz_drew, sz_drewN]; omega) | (simp only [sz_alloc, sz_set, sz_drew, sz_drewN] at *; omega)) _ | refine Below.setCell ?_ (by first | omega | (simp only [sz_alloc, sz_set, sz_drew, sz_drewN]; omega) | (simp only [sz_alloc, sz_set, sz_drew, sz_drewN] at *; omega)) _ | refine Below.drew ?_ | refine below_drewN_ ?_ _)), r2.up (by repeat (first | exact Below.refl _ _ | exact Since.out (by assumption) | refine Below.alloc ?_ (by first | omega | (simp only [sz_alloc, sz_set, sz_drew, sz_drewN]; omega) | (simp only [sz_alloc, sz_set, sz_drew, sz_drewN] at *; omega)) _ | refine Below.setCell ?_ (by first | omega | (simp only [sz_alloc, sz_set, sz_drew, sz_drewN]; omega) | (simp only [sz_alloc, sz_set, sz_drew, sz_drewN] at *; omega)) _ | refine Below.drew ?_ | refine below_drewN_ ?_ _))⟩
        have hat' : AtRr w2 (w.heap.size + 1) U := ⟨by omega, E1, d1, E2, d2, by go_simp, by go_simp, by go_simp, by go_simp, s1.up (by repeat (first | exact Below.refl _ _ | exact Since.out (by assumption) | refine Below.alloc ?_ (by first | omega | (simp only [sz_alloc, sz_set, sz_drew, sz_drewN]; omega) | (simp only [sz_alloc, sz_set, sz_drew, sz_drewN] at *; omega)) _ | refine Below.setCell ?_ (by first | omega | (simp only [sz_alloc, sz_set, sz_drew, sz_drewN]; omega) | (simp only [sz_alloc, sz_set, sz_drew, sz_drewN] at *; omega)) _ | refine Below.drew ?_ | refine below_drewN_ ?_ _)), s2.up (by repeat (first | exact Below.refl _ _ | exact Since.out (by assumption) | refine Below.alloc ?_ (by first | omega | (simp only [sz_alloc, sz_set, sz_drew, sz_drewN]; omega) | (simp only [sz_alloc, sz_set, sz_drew, sz_drewN] at *; omega)) _ | refine Below.setCell ?_ (by first | omega | (simp only [sz_alloc, sz_set, sz_drew, sz_drewN]; omega) | (simp only [sz_alloc, sz_set, sz_drew, sz_drewN] at *; omega)) _ | refine Below.drew ?_ | refine below_drewN_ ?_ _))⟩
        have HFW := Lib.hid (fun W (hb : Below w2.heap.size w2 W) => firstWord_impl w.heap.size (w.heap.size + 1) T U W (hat.up hb) (hat'.up hb) (Rr.ok_of HT.out) (Rr.ok_of HU.out) hl.symm)
        clear hl hat hat'
        go_wp2_with fail
        refine (HFW.out _ (by repeat (first | exact Below.refl _ _ | refine Below.alloc ?_ (by first | omega | (simp only [sz_alloc, sz_set, sz_drew, sz_drewN]; omega) | (simp only [sz_alloc, sz_set, sz_drew, sz_drewN] at *; omega)) _ | refine Below.setCell ?_ (by first | omega | (simp only [sz_alloc, sz_set, sz_drew, sz_drewN]; omega) | (simp only [sz_alloc, sz_set, sz_drew, sz_drewN] at *; omega)) _ | refine Below.drew ?_ | refine below_drewN_ ?_ _))).mono ?_
        rintro e w3 ⟨o, hF, rfl, hb3⟩
        have HBw3 : Since w w3 := ⟨below_cat (by repeat (first | exact Below.refl _ _ | exact Since.out (by assumption) | refine Below.alloc ?_ (by first | omega | (simp only [sz_alloc, sz_set, sz_drew, sz_drewN]; omega) | (simp only [sz_alloc, sz_set, sz_drew, sz_drewN] at *; omega)) _ | refine Below.setCell ?_ (by first | omega | (simp only [sz_alloc, sz_set, sz_drew, sz_drewN]; omega) | (simp only [sz_alloc, sz_set, sz_drew, sz_drewN] at *; omega)) _ | refine Below.drew ?_ | refine below_drewN_ ?_ _)) hb3 (by first | omega | (simp only [sz_alloc, sz_set, sz_drew, sz_drewN]; omega) | (simp only [sz_alloc, sz_set, sz_drew, sz_drewN] at *; omega))⟩; have hzw3 := hb3.size; (try simp only [sz_alloc, sz_set, sz_drew, sz_drewN] at hzw3); have hcw3k0 := fun o => hb3.cell (p := ⟨w.heap.size, o, none⟩) (by first | omega | (simp only [sz_alloc, sz_set, sz_drew, sz_drewN]; omega) | (simp only [sz_alloc, sz_set, sz_drew, sz_drewN] at *; omega)); have hfw3k0 := fun o => hb3.frozen (p := ⟨w.heap.size, o, none⟩) (by first | omega | (simp only [sz_alloc, sz_set, sz_drew, sz_drewN]; omega) | (simp only [sz_alloc, sz_set, sz_drew, sz_drewN] at *; omega)); have hlw3k0 : w.heap.size < w3.heap.size := (by first | omega | (simp only [sz_alloc, sz_set, sz_drew, sz_drewN]; omega) | (simp only [sz_alloc, sz_set, sz_drew, sz_drewN] at *; omega)); have hcw3k1 := fun o => hb3.cell (p := ⟨w.heap.size + 1, o, none⟩) (by first | omega | (simp only [sz_alloc, sz_set, sz_drew, sz_drewN]; omega) | (simp only [sz_alloc, sz_set, sz_drew, sz_drewN] at *; omega)); have hfw3k1 := fun o => hb3.frozen (p := ⟨w.heap.size + 1, o, none⟩) (by first | omega | (simp only [sz_alloc, sz_set, sz_drew, sz_drewN]; omega) | (simp only [sz_alloc, sz_set, sz_drew, sz_drewN] at *; omega)); have hlw3k1 : w.heap.size + 1 < w3.heap.size := (by first | omega | (simp only [sz_alloc, sz_set, sz_drew, sz_drewN]; omega) | (simp only [sz_alloc, sz_set, sz_drew, sz_drewN] at *; omega))
        rw [ansV_eq]
        have HV : Hid (UnlOf T U (ansS o) (ansC o)) := Lib.hid (by unfold UnlOf; rw [if_pos ⟨HT.out, HU.out⟩, if_pos HL.out]; exact ⟨o, hF, rfl, rfl⟩)
        clear hF
        go_wp2
        go_ret2
        exact ⟨_, _, HV.out, rfl, HBw3.out⟩
      · have ql : (T.letters != U.letters) = true := by simp [hl]
        have HV : Hid (UnlOf T U ⟨#[]⟩ 2) := Lib.hid (by unfold UnlOf; rw [if_pos ⟨HT.out, HU.out⟩, if_neg hl]; exact ⟨rfl, rfl⟩)
        clear hl
        go_wp2
        go_ret2
        exact ⟨_, _, HV.out, rfl, HBw2.out⟩

theorem firstOf_move {T U X Y : Rr} (h : ∀ u, Lets T.letters.toNat u → bad2 X Y (runW (stp2 X Y) (st2 X Y) u) = bad2 T U (runW (stp2 T U) (st2 T U) u)) (hl : X.letters = T.letters) {o : Option (List Nat)} (h1 : FirstOf X Y o) : FirstOf T U o := by
  cases o with
  | some u =>
    unfold FirstOf at h1 ⊢
    rw [hl] at h1
    exact ⟨h1.1, by rw [← h u h1.1]; exact h1.2.1, fun v hv hlt => by rw [← h v hv]; exact h1.2.2 v hv hlt⟩
  | none =>
    unfold FirstOf at h1 ⊢
    rw [hl] at h1
    exact fun v hv => by rw [← h v hv]; exact h1 v hv
theorem AtRr.made {w : World} {T : Rr} {A1 A2 : Option Addr} {c1 c2 : Nat} (r1 : RdS w w.heap.size A1 T.accept) (r2 : RdS w w.heap.size A2 T.next) : AtRr (w.alloc (.cells #[.int .i64 T.letters, .int .i64 T.start, .slice A1 T.accept.length c1, .slice A2 T.next.length c2] 29)) w.heap.size T :=
  ⟨by simp, A1, c1, A2, c2, by go_simp, by go_simp, by go_simp, by go_simp, r1.up (by repeat (first | exact Below.refl _ _ | refine Below.alloc ?_ (by first | omega | (simp only [sz_alloc, sz_set, sz_drew, sz_drewN]; omega) | (simp only [sz_alloc, sz_set, sz_drew, sz_drewN] at *; omega)) _ | refine Below.setCell ?_ (by first | omega | (simp only [sz_alloc, sz_set, sz_drew, sz_drewN]; omega) | (simp only [sz_alloc, sz_set, sz_drew, sz_drewN] at *; omega)) _ | refine Below.drew ?_ | refine below_drewN_ ?_ _)), r2.up (by repeat (first | exact Below.refl _ _ | refine Below.alloc ?_ (by first | omega | (simp only [sz_alloc, sz_set, sz_drew, sz_drewN]; omega) | (simp only [sz_alloc, sz_set, sz_drew, sz_drewN] at *; omega)) _ | refine Below.setCell ?_ (by first | omega | (simp only [sz_alloc, sz_set, sz_drew, sz_drewN]; omega) | (simp only [sz_alloc, sz_set, sz_drew, sz_drewN] at *; omega)) _ | refine Below.drew ?_ | refine below_drewN_ ?_ _))⟩
/-- The code of two readers. -/
def bothC (T U : Rr) : Int := if T.okB = true ∧ U.okB = true then (if T.letters = U.letters then 0 else 2) else 1
def AtS (w : World) (b : Nat) (T : Rr) : Prop := AtRr w b T
theorem l01Both (b b' : Nat) (T U : Rr) (w : World) (h : AtRr w b T) (h' : AtRr w b' U) (n1 : T.tot ≤ 1048576) (n2 : U.tot ≤ 1048576) :
    Calls Try.prog 19 #[.pointer (some ⟨b, 0, none⟩), .pointer (some ⟨b', 0, none⟩)] w fun e w' => e = .returned (.int .i64 (bothC T U)) ∧ Below w.heap.size w w' := by
  have HT1 := Lib.hid (fun W (hb : Below w.heap.size w W) => h.up hb)
  have HU1 := Lib.hid (fun W (hb : Below w.heap.size w W) => h'.up hb)
  clear h h'
  go_enter Try.func19, Try.ntmps19
  go_wp2_with fail
  obtain ⟨k0, A1, c1, A2, c2, q0, q1, q2, q3, r1, r2⟩ := HT1.out w (Below.refl _ _)
  refine (l01Ok b A1 c1 A2 c2 T _ q0 q1 q2 q3 k0 r2 n1).mono ?_
  rintro e w1 ⟨rfl, hb1⟩
  have hz1 := hb1.size
  clear q0 q1 q2 q3 r1 r2
  cases hT : T.okB with
  | false =>
    have HV : Hid (bothC T U = 1) := Lib.hid (by unfold bothC; rw [if_neg (by rw [hT]; simp)])
    clear hT
    go_wp2
    go_ret
    exact ⟨ret_int HV.out.symm, hb1⟩
  | true =>
    have HT := Lib.hid hT
    clear hT
    go_wp2_with fail
    obtain ⟨k0', E1, d1, E2, d2, p0, p1, p2, p3, s1, s2⟩ := HU1.out w1 hb1
    refine (l01Ok b' E1 d1 E2 d2 U _ p0 p1 p2 p3 k0' s2 n2).mono ?_
    rintro e w2 ⟨rfl, hb2⟩
    have hb12 : Below w.heap.size w w2 := hb1.trans (hb2.mono hz1)
    have hs12 : Since w w2 := ⟨hb12⟩
    clear p0 p1 p2 p3 s1 s2
    cases hU : U.okB with
    | false =>
      have HV : Hid (bothC T U = 1) := Lib.hid (by unfold bothC; rw [if_neg (by rw [hU]; simp)])
      clear hU
      go_wp2
      go_ret
      exact ⟨ret_int HV.out.symm, hb12⟩
    | true =>
      have HU := Lib.hid hU
      clear hU
      obtain ⟨-, A1, c1, A2, c2, q0, -, -, -, -, -⟩ := HT1.out w2 hb12
      obtain ⟨-, E1, d1, E2, d2, p0, -, -, -, -, -⟩ := HU1.out w2 hb12
      by_cases hl : T.letters = U.letters
      · have ql : (T.letters != U.letters) = false := by rw [hl]; simp
        have HV : Hid (bothC T U = 0) := Lib.hid (by unfold bothC; rw [if_pos ⟨HT.out, HU.out⟩, if_pos hl])
        clear hl
        go_wp2
        go_quiet (fail)
        go_wp2
        go_ret
        exact ⟨ret_int HV.out.symm, (by repeat (first | exact Below.refl _ _ | exact Since.out (by assumption) | refine Below.alloc ?_ (by first | omega | (simp only [sz_alloc, sz_set, sz_drew, sz_drewN]; omega) | (simp only [sz_alloc, sz_set, sz_drew, sz_drewN] at *; omega)) _ | refine Below.setCell ?_ (by first | omega | (simp only [sz_alloc, sz_set, sz_drew, sz_drewN]; omega) | (simp only [sz_alloc, sz_set, sz_drew, sz_drewN] at *; omega)) _ | refine Below.drew ?_ | refine below_drewN_ ?_ _))⟩
      · have ql : (T.letters != U.letters) = true := by simp [hl]
        have HV : Hid (bothC T U = 2) := Lib.hid (by unfold bothC; rw [if_pos ⟨HT.out, HU.out⟩, if_neg hl])
        clear hl
        go_wp2
        go_quiet (fail)
        go_wp2
        go_ret
        exact ⟨ret_int HV.out.symm, (by repeat (first | exact Below.refl _ _ | exact Since.out (by assumption) | refine Below.alloc ?_ (by first | omega | (simp only [sz_alloc, sz_set, sz_drew, sz_drewN]; omega) | (simp only [sz_alloc, sz_set, sz_drew, sz_drewN] at *; omega)) _ | refine Below.setCell ?_ (by first | omega | (simp only [sz_alloc, sz_set, sz_drew, sz_drewN]; omega) | (simp only [sz_alloc, sz_set, sz_drew, sz_drewN] at *; omega)) _ | refine Below.drew ?_ | refine below_drewN_ ?_ _))⟩

theorem firstUnlike_spec (v v' : Value) (T U : Rr) (w : World) (h1 : RdRr w w.heap.size v T) (h2 : RdRr w w.heap.size v' U) (n1 : T.tot ≤ 1048576) (n2 : U.tot ≤ 1048576) :
    Calls Try.prog 6 #[v, v'] w (RetUnl T U w) := by
  obtain ⟨A1, c1, A2, c2, rfl, r1, r2⟩ := h1
  obtain ⟨E1, d1, E2, d2, rfl, s1, s2⟩ := h2
  have hat : AtRr ((w.alloc (.cells #[.int .i64 T.letters, .int .i64 T.start, .slice A1 T.accept.length c1, .slice A2 T.next.length c2] 29)).alloc (.cells #[.int .i64 U.letters, .int .i64 U.start, .slice E1 U.accept.length d1, .slice E2 U.next.length d2] 29)) w.heap.size T := ⟨by simp <;> omega, A1, c1, A2, c2, by go_simp, by go_simp, by go_simp, by go_simp, r1.up (by repeat (first | exact Below.refl _ _ | refine Below.alloc ?_ (by first | omega | (simp only [sz_alloc, sz_set, sz_drew, sz_drewN]; omega) | (simp only [sz_alloc, sz_set, sz_drew, sz_drewN] at *; omega)) _ | refine Below.setCell ?_ (by first | omega | (simp only [sz_alloc, sz_set, sz_drew, sz_drewN]; omega) | (simp only [sz_alloc, sz_set, sz_drew, sz_drewN] at *; omega)) _ | refine Below.drew ?_ | refine below_drewN_ ?_ _)), r2.up (by repeat (first | exact Below.refl _ _ | refine Below.alloc ?_ (by first | omega | (simp only [sz_alloc, sz_set, sz_drew, sz_drewN]; omega) | (simp only [sz_alloc, sz_set, sz_drew, sz_drewN] at *; omega)) _ | refine Below.setCell ?_ (by first | omega | (simp only [sz_alloc, sz_set, sz_drew, sz_drewN]; omega) | (simp only [sz_alloc, sz_set, sz_drew, sz_drewN] at *; omega)) _ | refine Below.drew ?_ | refine below_drewN_ ?_ _))⟩
  have hat' : AtRr ((w.alloc (.cells #[.int .i64 T.letters, .int .i64 T.start, .slice A1 T.accept.length c1, .slice A2 T.next.length c2] 29)).alloc (.cells #[.int .i64 U.letters, .int .i64 U.start, .slice E1 U.accept.length d1, .slice E2 U.next.length d2] 29)) (w.heap.size + 1) U := ⟨by simp, E1, d1, E2, d2, by go_simp, by go_simp, by go_simp, by go_simp, s1.up (by repeat (first | exact Below.refl _ _ | refine Below.alloc ?_ (by first | omega | (simp only [sz_alloc, sz_set, sz_drew, sz_drewN]; omega) | (simp only [sz_alloc, sz_set, sz_drew, sz_drewN] at *; omega)) _ | refine Below.setCell ?_ (by first | omega | (simp only [sz_alloc, sz_set, sz_drew, sz_drewN]; omega) | (simp only [sz_alloc, sz_set, sz_drew, sz_drewN] at *; omega)) _ | refine Below.drew ?_ | refine below_drewN_ ?_ _)), s2.up (by repeat (first | exact Below.refl _ _ | refine Below.alloc ?_ (by first | omega | (simp only [sz_alloc, sz_set, sz_drew, sz_drewN]; omega) | (simp only [sz_alloc, sz_set, sz_drew, sz_drewN] at *; omega)) _ | refine Below.setCell ?_ (by first | omega | (simp only [sz_alloc, sz_set, sz_drew, sz_drewN]; omega) | (simp only [sz_alloc, sz_set, sz_drew, sz_drewN] at *; omega)) _ | refine Below.drew ?_ | refine below_drewN_ ?_ _))⟩
  have hbw : Below w.heap.size w ((w.alloc (.cells #[.int .i64 T.letters, .int .i64 T.start, .slice A1 T.accept.length c1, .slice A2 T.next.length c2] 29)).alloc (.cells #[.int .i64 U.letters, .int .i64 U.start, .slice E1 U.accept.length d1, .slice E2 U.next.length d2] 29)) := (by repeat (first | exact Below.refl _ _ | refine Below.alloc ?_ (by first | omega | (simp only [sz_alloc, sz_set, sz_drew, sz_drewN]; omega) | (simp only [sz_alloc, sz_set, sz_drew, sz_drewN] at *; omega)) _ | refine Below.setCell ?_ (by first | omega | (simp only [sz_alloc, sz_set, sz_drew, sz_drewN]; omega) | (simp only [sz_alloc, sz_set, sz_drew, sz_drewN] at *; omega)) _ | refine Below.drew ?_ | refine below_drewN_ ?_ _))
  go_enter Try.func6, Try.ntmps6
  go_wp2_with fail
  obtain ⟨w0, hw0⟩ : ∃ w0, w0 = ((w.alloc (.cells #[.int .i64 T.letters, .int .i64 T.start, .slice A1 T.accept.length c1, .slice A2 T.next.length c2] 29)).alloc (.cells #[.int .i64 U.letters, .int .i64 U.start, .slice E1 U.accept.length d1, .slice E2 U.next.length d2] 29)) := ⟨_, rfl⟩
  rw [← hw0] at hat hat' hbw ⊢
  clear hw0 r1 r2 s1 s2
  refine (l01Both w.heap.size (w.heap.size + 1) T U _ hat hat' n1 n2).mono ?_
  rintro e w1 ⟨rfl, hb1⟩
  have hbw1 : Below w.heap.size w w1 := hbw.trans (hb1.mono hbw.size)
  have hat1 := hat.up hb1
  have hat1' := hat'.up hb1
  clear hat hat' hbw hb1
  by_cases hok : T.okB = true ∧ U.okB = true
  · by_cases hl : T.letters = U.letters
    · have HV : Hid (bothC T U = 0) := Lib.hid (by unfold bothC; rw [if_pos hok, if_pos hl])
      have HOK := Lib.hid hok
      have HL := Lib.hid hl
      have HLU : Hid (∀ s c, (∃ o, FirstOf T U o ∧ s = ansS o ∧ c = ansC o) → UnlOf T U s c) := Lib.hid fun s c h => by unfold UnlOf; rw [if_pos hok, if_pos hl]; exact h
      rw [HV.out]
      clear hok hl
      have HA := Lib.hid hat1
      have HA' := Lib.hid hat1'
      clear hat1 hat1'
      go_wp2_with fail
      obtain ⟨k0, A1, c1, A2, c2, q0, q1, q2, q3, r1, r2⟩ := HA.out
      refine (l01Tidy w.heap.size A1 c1 A2 c2 T _ q0 q1 q2 q3 k0 r1 r2 (Rr.ok_of HOK.out.1)).mono ?_
      rintro e w2 ⟨x, X, rfl, hX, hal, hb2⟩
      clear q0 q1 q2 q3 r1 r2
      have HAL := Lib.hid hal
      obtain ⟨X1, m1, X2, m2, rfl, x1, x2⟩ := hX
      have hz2 := hb2.size
      have hbw2 : Below w.heap.size w w2 := hbw1.trans (hb2.mono hbw1.size)
      have HB2 := Lib.hid ((HA'.out.up hb2).up (w' := w2.alloc (.cells #[.int .i64 X.letters, .int .i64 X.start, .slice X1 X.accept.length m1, .slice X2 X.next.length m2] 29)) (by repeat (first | exact Below.refl _ _ | refine Below.alloc ?_ (by first | omega | (simp only [sz_alloc, sz_set, sz_drew, sz_drewN]; omega) | (simp only [sz_alloc, sz_set, sz_drew, sz_drewN] at *; omega)) _ | refine Below.setCell ?_ (by first | omega | (simp only [sz_alloc, sz_set, sz_drew, sz_drewN]; omega) | (simp only [sz_alloc, sz_set, sz_drew, sz_drewN] at *; omega)) _ | refine Below.drew ?_ | refine below_drewN_ ?_ _)))
      have HX2 := Lib.hid (AtRr.made (c1 := m1) (c2 := m2) x1 x2)
      clear hb2 x1 x2 HA HA' hbw1
      go_wp2_with fail
      obtain ⟨k0, A1, c1, A2, c2, q0, q1, q2, q3, r1, r2⟩ := HB2.out
      refine (l01Tidy (w.heap.size + 1) A1 c1 A2 c2 U _ q0 q1 q2 q3 k0 r1 r2 (Rr.ok_of HOK.out.2)).mono ?_
      rintro e w3 ⟨y, Y, rfl, hY, hal', hb3⟩
      clear q0 q1 q2 q3 r1 r2
      have HAL' := Lib.hid hal'
      obtain ⟨Y1, l1, Y2, l2, rfl, y1, y2⟩ := hY
      have hz3 := hb3.size
      simp only [sz_alloc] at hz3
      have hbw3 : Below w.heap.size w w3 := (hbw2.alloc hbw2.size _).trans (hb3.mono (by have := hbw2.size; simp only [sz_alloc]; omega))
      have HX3 := Lib.hid ((HX2.out.up hb3).up (w' := w3.alloc (.cells #[.int .i64 Y.letters, .int .i64 Y.start, .slice Y1 Y.accept.length l1, .slice Y2 Y.next.length l2] 29)) (by repeat (first | exact Below.refl _ _ | refine Below.alloc ?_ (by first | omega | (simp only [sz_alloc, sz_set, sz_drew, sz_drewN]; omega) | (simp only [sz_alloc, sz_set, sz_drew, sz_drewN] at *; omega)) _ | refine Below.setCell ?_ (by first | omega | (simp only [sz_alloc, sz_set, sz_drew, sz_drewN]; omega) | (simp only [sz_alloc, sz_set, sz_drew, sz_drewN] at *; omega)) _ | refine Below.drew ?_ | refine below_drewN_ ?_ _)))
      have HY3 := Lib.hid (AtRr.made (c1 := l1) (c2 := l2) y1 y2)
      clear hal hal' hb3 y1 y2 HB2 HX2
      go_wp2_with fail
      obtain ⟨k0, A1, c1, A2, c2, q0, q1, q2, q3, r1, r2⟩ := HX3.out
      obtain ⟨k0', E1, d1, E2, d2, p0, p1, p2, p3, s1, s2⟩ := HY3.out
      refine (l01First w2.heap.size A1 c1 A2 c2 w3.heap.size E1 d1 E2 d2 X Y _ q0 q1 q2 q3 k0 p1 p2 p3 k0' r1 r2 s1 s2 HAL.out.ok HAL'.out.ok (by rw [HAL'.out.letters, HAL.out.letters, HL.out])).mono ?_
      rintro e w4 ⟨o, hF, rfl, hb4⟩
      clear q0 q1 q2 q3 r1 r2 p0 p1 p2 p3 s1 s2
      rw [ansV_eq]
      have HVV : Hid (UnlOf T U (ansS o) (ansC o)) := Lib.hid (HLU.out _ _ ⟨o, firstOf_move (alike_bad HAL.out HAL'.out HL.out.symm) HAL.out.letters hF, rfl, rfl⟩)
      have hbw4 : Below w.heap.size w w4 := (hbw3.alloc hbw3.size _).trans (hb4.mono (by have := hbw3.size; simp only [sz_alloc]; omega))
      clear hF hb4
      go_wp2
      go_ret2
      exact ⟨_, _, HVV.out, rfl, hbw4⟩
    · have HV : Hid (bothC T U = 2) := Lib.hid (by unfold bothC; rw [if_pos hok, if_neg hl])
      have HVV : Hid (UnlOf T U ⟨#[]⟩ 2) := Lib.hid (by unfold UnlOf; rw [if_pos hok, if_neg hl]; exact ⟨rfl, rfl⟩)
      rw [HV.out]
      clear hok hl hat1 hat1'
      go_wp2
      go_ret2
      exact ⟨_, _, HVV.out, rfl, hbw1⟩
  · have HV : Hid (bothC T U = 1) := Lib.hid (by unfold bothC; rw [if_neg hok])
    have HVV : Hid (UnlOf T U ⟨#[]⟩ 1) := Lib.hid (by unfold UnlOf; rw [if_neg hok]; exact ⟨rfl, rfl⟩)
    rw [HV.out]
    clear hok hat1 hat1'
    go_wp2
    go_ret2
    exact ⟨_, _, HVV.out, rfl, hbw1⟩
end Go.Proofs.Ytpknkaidmefenaa
