/-
  Contract of the reference's classes. Conditions: those in the statement.
-/
import Derived.Test.YtpknkaidmefenaaClsLaw
import Derived.BigQuiet
set_option linter.unusedVariables false
set_option linter.unusedSimpArgs false
set_option maxRecDepth 100000
set_option maxHeartbeats 1000000
namespace Go.Proofs.Ytpknkaidmefenaa
open Go.RowKit

theorem infoI64 : (Try.prog.info? 2).map (fun i => (i.zero, i.size, i.bytes)) = some (some (.int .i64 0), 1, 8) := by kernel_rfl
/-- It returns classes, in new memory. -/
def RetCls (T : Rr) (w : World) (e : Ending) (w' : World) : Prop := ∃ (g : Nat) (xs : List Int) (cls : Nat → Nat), e = .returned (.slice (some ⟨g, 0, none⟩) T.accept.length T.accept.length) ∧ Ints w' g 2 xs ∧ (∀ j, j < T.accept.length → xs[j]? = some ((cls j : Nat) : Int)) ∧ Cls T.accept.length T.letters.toNat (nxR T) (accR T) cls ∧ w.heap.size ≤ g ∧ Below w.heap.size w w'

theorem l01Classes (b : Nat) (A1 : Option Addr) (c1 : Nat) (A2 : Option Addr) (c2 : Nat) (T : Rr) (w : World) (q2 : w.cell? ⟨b, 2, none⟩ = some (.slice A1 T.accept.length c1)) (q3 : w.cell? ⟨b, 3, none⟩ = some (.slice A2 T.next.length c2)) (hbw : b < w.heap.size)
    (r1 : RdS w w.heap.size A1 T.accept) (r2 : RdS w w.heap.size A2 T.next) (OK : T.Ok) :
    Calls Try.prog 49 #[.pointer (some ⟨b, 0, none⟩)] w (RetCls T w) := by
  have HO := Lib.hid OK
  obtain ⟨l1, l3, n1, n300, s0, s1, hsame, hrow⟩ := OK
  obtain ⟨n, hn⟩ : ∃ n, T.accept.length = n := ⟨_, rfl⟩
  have HN := Lib.hid hn
  obtain ⟨L, hL⟩ : ∃ L : Nat, T.letters.toNat = L := ⟨_, rfl⟩
  have HS := Lib.hid hsame
  have hT : Hid (∀ s, s < n → T.accept[s]? = some (accR T s)) := Lib.hid fun s hs => acc_at0 (by omega)
  have hR : Hid (∀ s, s < n → ∃ r, T.next[s]? = some r ∧ r.length = L ∧ ∀ a, a < L → r[a]? = some ((nxR T s a : Nat) : Int) ∧ nxR T s a < n) := Lib.hid fun s hs => by
    obtain ⟨r, h1, h2, h3⟩ := row_at0 HO.out (s := s) (by omega)
    have h4 : r.length = L := by omega
    rw [hn, h4] at h3
    exact ⟨r, h1, h4, h3⟩
  unfold RetCls
  rw [hn] at q2 n1 n300 ⊢
  rw [hL]
  have q3' : w.cell? ⟨b, 3, none⟩ = some (.slice A2 n c2) := by rw [q3, hsame, hn]
  have hL3 : L ≤ 3 := by omega
  clear q3 hsame hrow s0 s1 hn hL l1 l3
  have hmk := make_full (P := Try.prog) 33 2 _ _ _ _ Try.underlying33 infoI64 rfl n (by omega) (by omega)
  go_enter Try.func49, Try.ntmps49
  go_wp2
  go_loopw [5] (fun i wr => ∃ (s : Nat) (xs : List Int), s ≤ n ∧ i = .int .i64 s ∧ Hid (Ints wr w.heap.size 2 xs ∧ DoneL n s (startC (accR T)) xs) ∧ Since w wr) (fun i _ => n - (intOf i).toNat)
  case atStart => exact ⟨0, _, Nat.zero_le _, rfl, Lib.hid ⟨Ints.made w _ _, DoneL.start _ _⟩, ⟨(by repeat (first | exact Below.refl _ _ | refine Below.alloc ?_ (by first | omega | (simp only [sz_alloc, sz_set, sz_drew, sz_drewN]; omega) | (simp only [sz_alloc, sz_set, sz_drew, sz_drewN] at *; omega)) _ | refine Below.setCell ?_ (by first | omega | (simp only [sz_alloc, sz_set, sz_drew, sz_drewN]; omega) | (simp only [sz_alloc, sz_set, sz_drew, sz_drewN] at *; omega)) _ | refine Below.drew ?_ | refine below_drewN_ ?_ _))⟩⟩
  case round =>
    obtain ⟨s, xs, hs, rfl, H, hsn⟩ := hrel
    obtain ⟨wo, rfl⟩ : ∃ wo, wo = wr := ⟨_, rfl⟩
    by_cases hlt : s < n
    · go_wp2
      go_loopw [6] (fun i wr => ∃ (k d : Nat) (ys : List Int), k ≤ s + 1 ∧ i = .int .i64 ((k : Int) - 1) ∧ Hid (Ints wr w.heap.size 2 ys ∧ UptoL n s (startC (accR T)) d ys ∧ startC (accR T) s = leastP (fun t => accR T t == accR T s) d k) ∧ Since w wr) (fun i _ => (intOf i + 1).toNat)
      case atStart => exact ⟨s + 1, 0, xs, Nat.le_refl _, by go_num, Lib.hid ⟨H.out.1, H.out.2.upto hlt, startC_eq _ _ _⟩, hsn⟩
      case round =>
        obtain ⟨k, d, ys, hk, rfl, H2, hs2⟩ := hrel
        obtain ⟨wi, rfl⟩ : ∃ wi, wi = wr := ⟨_, rfl⟩
        cases k with
        | zero =>
          go_wp2
          go_roundw
          case rel => exact ⟨s + 1, ys, by omega, by go_num, Lib.hid ⟨H2.out.1, H2.out.2.1.next (by have := H2.out.2.2; exact this.symm)⟩, hs2⟩
          case measure => (simp [intOf]; try omega)
        | succ t =>
          have e2 := (hs2.out.cell (p := ⟨b, 2, none⟩) hbw).trans q2
          obtain ⟨b', o, rfl, hbb, ct⟩ := (r1.up hs2.out).bool (hT.out t (by omega))
          obtain ⟨_, _, ⟨⟩, _, cs⟩ := (r1.up hs2.out).bool (hT.out s hlt)
          have fs := H2.out.1.free (k := s)
          have cd := H2.out.1.cell H2.out.2.1.here
          rw [show ((t + 1 : Nat) : Int) - 1 = (t : Int) by omega]
          have i1 : (0 : Int) ≤ (t : Int) := by omega
          have i2 : (t : Int) < (n : Int) := by omega
          have i3 : (0 : Int) ≤ (s : Int) := by omega
          have i4 : (s : Int) < (n : Int) := by omega
          have hsz : w.heap.size < wi.heap.size := H2.out.1.lt
          cases hp : (accR T t == accR T s) with
          | true =>
            have HP : Hid (startC (accR T) s = leastP (fun t => accR T t == accR T s) t t) := Lib.hid (leastP_yes _ H2.out.2.2 hp)
            go_wp2
            go_quiet (fail)
            go_wp2
            go_roundw
            case rel => exact ⟨t, t, ys.set s (t : Int), by omega, by go_num, Lib.hid ⟨(H2.out.1.drewN _).set _, H2.out.2.1.set t, HP.out⟩, ⟨(by repeat (first | exact Below.refl _ _ | exact Since.out (by assumption) | refine Below.alloc ?_ (by first | omega | (simp only [sz_alloc, sz_set, sz_drew, sz_drewN]; omega) | (simp only [sz_alloc, sz_set, sz_drew, sz_drewN] at *; omega)) _ | refine Below.setCell ?_ (by first | omega | (simp only [sz_alloc, sz_set, sz_drew, sz_drewN]; omega) | (simp only [sz_alloc, sz_set, sz_drew, sz_drewN] at *; omega)) _ | refine Below.drew ?_ | refine below_drewN_ ?_ _))⟩⟩
            case measure => (simp [intOf]; try omega)
          | false =>
            have HP : Hid (startC (accR T) s = leastP (fun t => accR T t == accR T s) d t) := Lib.hid (leastP_no _ H2.out.2.2 hp)
            go_wp2
            go_quiet (fail)
            go_wp2
            go_roundw
            case rel => exact ⟨t, d, ys, by omega, by go_num, Lib.hid ⟨H2.out.1.drewN _, H2.out.2.1, HP.out⟩, ⟨(by repeat (first | exact Below.refl _ _ | exact Since.out (by assumption) | refine Below.alloc ?_ (by first | omega | (simp only [sz_alloc, sz_set, sz_drew, sz_drewN]; omega) | (simp only [sz_alloc, sz_set, sz_drew, sz_drewN] at *; omega)) _ | refine Below.setCell ?_ (by first | omega | (simp only [sz_alloc, sz_set, sz_drew, sz_drewN]; omega) | (simp only [sz_alloc, sz_set, sz_drew, sz_drewN] at *; omega)) _ | refine Below.drew ?_ | refine below_drewN_ ?_ _))⟩⟩
            case measure => (simp [intOf]; try omega)
    · obtain rfl : n = s := by omega
      have H0 : Hid (Ints wo w.heap.size 2 xs ∧ ClsInv n (accR T) (startC (accR T)) ∧ ∀ j, j < n → xs[j]? = some ((startC (accR T) j : Nat) : Int)) := Lib.hid ⟨H.out.1, ClsInv.start _ _, fun j hj => H.out.2.at_ hj⟩
      clear H
      have hzo : w.heap.size < wo.heap.size := H0.out.1.lt
      go_wp2
      go_loopw [4] (fun cv wr => ∃ (g : Nat) (xs : List Int) (cls : Nat → Nat), cv = .slice (some ⟨g, 0, none⟩) n n ∧ w.heap.size ≤ g ∧ Hid (Ints wr g 2 xs ∧ ClsInv n (accR T) cls ∧ ∀ j, j < n → xs[j]? = some ((cls j : Nat) : Int)) ∧ Since w wr) (fun cv wr => potV wr cv)
      case atStart => exact ⟨_, xs, _, rfl, Nat.le_refl _, H0, hsn⟩
      case round =>
        clear hsn hzo H0
        obtain ⟨g, xs, cls, rfl, hg, H, hsn⟩ := hrel
        obtain ⟨wo, rfl⟩ : ∃ wo, wo = wr := ⟨_, rfl⟩
        have hgo := H.out.1.lt
        go_wp2
        go_loopw [8, 9] (fun sv i wr => ∃ (s : Nat) (ys : List Int), s ≤ n ∧ i = .int .i64 s ∧ sv = .bool (sameB cls (refineC L (nxR T) cls) s) ∧ Hid (Ints wr wo.heap.size 2 ys ∧ DoneL n s (refineC L (nxR T) cls) ys) ∧ Since wo wr) (fun _ i _ => n - (intOf i).toNat)
        case atStart => exact ⟨0, _, Nat.zero_le _, rfl, rfl, Lib.hid ⟨Ints.made wo _ _, DoneL.start _ _⟩, ⟨(by repeat (first | exact Below.refl _ _ | refine Below.alloc ?_ (by first | omega | (simp only [sz_alloc, sz_set, sz_drew, sz_drewN]; omega) | (simp only [sz_alloc, sz_set, sz_drew, sz_drewN] at *; omega)) _ | refine Below.setCell ?_ (by first | omega | (simp only [sz_alloc, sz_set, sz_drew, sz_drewN]; omega) | (simp only [sz_alloc, sz_set, sz_drew, sz_drewN] at *; omega)) _ | refine Below.drew ?_ | refine below_drewN_ ?_ _))⟩⟩
        case round =>
          obtain ⟨s, ys, hs, rfl, rfl, H1, hs1⟩ := hrel
          obtain ⟨w1, rfl⟩ : ∃ w1, w1 = wr := ⟨_, rfl⟩
          by_cases hlt : s < n
          · have f1 := H1.out.1.free (k := s)
            have d1 := H1.out.1.cell (H1.out.2.rest s (Nat.le_refl _) hlt)
            have i3 : (0 : Int) ≤ (s : Int) := by omega
            have i4 : (s : Int) < (n : Int) := by omega
            have U1 : Hid (Ints (w1.setCell ⟨wo.heap.size, s, none⟩ (.int .i64 s)) wo.heap.size 2 (ys.set s (s : Int)) ∧ UptoL n s (refineC L (nxR T) cls) s (ys.set s (s : Int))) := Lib.hid ⟨H1.out.1.set _, (H1.out.2.upto hlt).set s⟩
            have hg1 := H1.out.1.lt
            clear H1
            go_wp2
            go_loopw [10] (fun i wr => ∃ (k d : Nat) (zs : List Int), k ≤ s ∧ i = .int .i64 ((k : Int) - 1) ∧ Hid (Ints wr wo.heap.size 2 zs ∧ UptoL n s (refineC L (nxR T) cls) d zs ∧ refineC L (nxR T) cls s = leastP (fun t => alikeB L (nxR T) cls t s) d k) ∧ Since wo wr) (fun i _ => (intOf i + 1).toNat)
            case atStart => exact ⟨s, s, _, Nat.le_refl _, by go_num, Lib.hid ⟨U1.out.1, U1.out.2, rfl⟩, ⟨(by repeat (first | exact Below.refl _ _ | exact Since.out (by assumption) | refine Below.alloc ?_ (by first | omega | (simp only [sz_alloc, sz_set, sz_drew, sz_drewN]; omega) | (simp only [sz_alloc, sz_set, sz_drew, sz_drewN] at *; omega)) _ | refine Below.setCell ?_ (by first | omega | (simp only [sz_alloc, sz_set, sz_drew, sz_drewN]; omega) | (simp only [sz_alloc, sz_set, sz_drew, sz_drewN] at *; omega)) _ | refine Below.drew ?_ | refine below_drewN_ ?_ _))⟩⟩
            case round =>
              clear U1 f1 d1 hs1 hg1
              obtain ⟨k, d, zs, hk, rfl, H2, hs2⟩ := hrel
              obtain ⟨w2, rfl⟩ : ∃ w2, w2 = wr := ⟨_, rfl⟩
              have hg2 := H2.out.1.lt
              have hw2 : Since w w2 := ⟨below_cat hsn.out hs2.out hsn.out.size⟩
              have C2 := H.out.1.below hs2.out hgo
              have cs := C2.cell (H.out.2.2 s hlt)
              have ns := H2.out.1.cell H2.out.2.1.here
              have fs := H2.out.1.free (k := s)
              cases k with
              | zero =>
                obtain rfl : d = refineC L (nxR T) cls s := H2.out.2.2.symm
                cases hsm : sameB cls (refineC L (nxR T) cls) s with
                | true =>
                  go_wp2
                  go_quiet (fail)
                  go_wp2
                  go_roundw
                  case rel => exact ⟨s + 1, zs, by omega, by go_num, by (rw [sameB, hsm]; (try rw [beq_cast]); simp), Lib.hid ⟨H2.out.1.drewN _, H2.out.2.1.next rfl⟩, ⟨(by repeat (first | exact Below.refl _ _ | exact Since.out (by assumption) | refine Below.alloc ?_ (by first | omega | (simp only [sz_alloc, sz_set, sz_drew, sz_drewN]; omega) | (simp only [sz_alloc, sz_set, sz_drew, sz_drewN] at *; omega)) _ | refine Below.setCell ?_ (by first | omega | (simp only [sz_alloc, sz_set, sz_drew, sz_drewN]; omega) | (simp only [sz_alloc, sz_set, sz_drew, sz_drewN] at *; omega)) _ | refine Below.drew ?_ | refine below_drewN_ ?_ _))⟩⟩
                  case measure => (simp [intOf]; try omega)
                | false =>
                  go_wp2
                  go_quiet (fail)
                  go_wp2
                  go_roundw
                  case rel => exact ⟨s + 1, zs, by omega, by go_num, by (rw [sameB, hsm]; (try rw [beq_cast]); simp), Lib.hid ⟨H2.out.1.drewN _, H2.out.2.1.next rfl⟩, ⟨(by repeat (first | exact Below.refl _ _ | exact Since.out (by assumption) | refine Below.alloc ?_ (by first | omega | (simp only [sz_alloc, sz_set, sz_drew, sz_drewN]; omega) | (simp only [sz_alloc, sz_set, sz_drew, sz_drewN] at *; omega)) _ | refine Below.setCell ?_ (by first | omega | (simp only [sz_alloc, sz_set, sz_drew, sz_drewN]; omega) | (simp only [sz_alloc, sz_set, sz_drew, sz_drewN] at *; omega)) _ | refine Below.drew ?_ | refine below_drewN_ ?_ _))⟩⟩
                  case measure => (simp [intOf]; try omega)
              | succ t =>
                have ct := C2.cell (H.out.2.2 t (by omega))
                obtain ⟨rs, hrs, hls, hns⟩ := hR.out s hlt
                obtain ⟨rt, hrt, hlt', hnt⟩ := hR.out t (by omega)
                obtain ⟨b', o, Ps, ps, rfl, hbb, cxs, _, rxs⟩ := (r2.up hw2.out).row hrs
                obtain ⟨_, _, Pt, pt, ⟨⟩, _, cxt, _, rxt⟩ := (r2.up hw2.out).row hrt
                have e3 := (hw2.out.cell (p := ⟨b, 3, none⟩) hbw).trans q3'
                rw [hls] at cxs
                rw [hlt'] at cxt
                rw [show ((t + 1 : Nat) : Int) - 1 = (t : Int) by omega]
                have i1 : (0 : Int) ≤ (t : Int) := by omega
                have i2 : (t : Int) < (n : Int) := by omega
                have HNS := Lib.hid hns
                have HNT := Lib.hid hnt
                clear hrs hrt hls hlt' hns hnt
                go_wp2
                go_quiet (fail)
                go_wp2
                go_loopw [11, 12] (fun al i wr => ∃ (a m : Nat), a ≤ L ∧ i = .int .i64 a ∧ al = .bool (alikeB a (nxR T) cls t s) ∧ wr = w2.drewN m) (fun _ i _ => L - (intOf i).toNat)
                case atStart => exact ⟨0, _, Nat.zero_le _, rfl, by rw [alikeB_zero, beq_cast], rfl⟩
                case round =>
                  obtain ⟨a, m, ha, rfl, rfl, rfl⟩ := hrel
                  by_cases hal : a < L
                  · cases hb : alikeB a (nxR T) cls t s with
                    | true =>
                      obtain ⟨ys1, ns1⟩ := HNS.out a hal
                      obtain ⟨yt1, nt1⟩ := HNT.out a hal
                      obtain ⟨_, os, rfl, _, cys⟩ := rxs.int ys1
                      obtain ⟨_, ot, rfl, _, cyt⟩ := rxt.int yt1
                      have cas := C2.cell (H.out.2.2 _ ns1)
                      have cat := C2.cell (H.out.2.2 _ nt1)
                      have i5 : (0 : Int) ≤ (a : Int) := by omega
                      have i6 : (a : Int) < (L : Int) := by omega
                      have HB : Hid (alikeB (a + 1) (nxR T) cls t s = decide (cls (nxR T t a) = cls (nxR T s a))) := Lib.hid (by rw [alikeB_succ, hb]; rfl)
                      clear hb ys1 yt1
                      go_wp2
                      go_quiet (fail)
                      go_wp2
                      go_roundw
                      case rel => exact ⟨a + 1, _, by omega, by go_num, by rw [HB.out, beq_cast], rfl⟩
                      case measure => (simp [intOf]; try omega)
                    | false =>
                      have HP : Hid (refineC L (nxR T) cls s = leastP (fun t => alikeB L (nxR T) cls t s) d t) := Lib.hid (leastP_no _ H2.out.2.2 (alikeB_stop hb ha))
                      have i6 : (a : Int) < (L : Int) := by omega
                      go_wp2
                      go_roundw
                      case rel => exact ⟨t, d, zs, by omega, by go_num, Lib.hid ⟨H2.out.1.drewN _, H2.out.2.1, HP.out⟩, ⟨(by repeat (first | exact Below.refl _ _ | exact Since.out (by assumption) | refine Below.alloc ?_ (by first | omega | (simp only [sz_alloc, sz_set, sz_drew, sz_drewN]; omega) | (simp only [sz_alloc, sz_set, sz_drew, sz_drewN] at *; omega)) _ | refine Below.setCell ?_ (by first | omega | (simp only [sz_alloc, sz_set, sz_drew, sz_drewN]; omega) | (simp only [sz_alloc, sz_set, sz_drew, sz_drewN] at *; omega)) _ | refine Below.drew ?_ | refine below_drewN_ ?_ _))⟩⟩
                      case measure => (simp [intOf]; try omega)
                  · obtain rfl : a = L := by omega
                    cases hb : alikeB a (nxR T) cls t s with
                    | true =>
                      have HP : Hid (refineC a (nxR T) cls s = leastP (fun t => alikeB a (nxR T) cls t s) t t) := Lib.hid (leastP_yes _ H2.out.2.2 hb)
                      go_wp2
                      go_roundw
                      case rel => exact ⟨t, t, zs.set s (t : Int), by omega, by go_num, Lib.hid ⟨(H2.out.1.drewN _).set _, H2.out.2.1.set t, HP.out⟩, ⟨(by repeat (first | exact Below.refl _ _ | exact Since.out (by assumption) | refine Below.alloc ?_ (by first | omega | (simp only [sz_alloc, sz_set, sz_drew, sz_drewN]; omega) | (simp only [sz_alloc, sz_set, sz_drew, sz_drewN] at *; omega)) _ | refine Below.setCell ?_ (by first | omega | (simp only [sz_alloc, sz_set, sz_drew, sz_drewN]; omega) | (simp only [sz_alloc, sz_set, sz_drew, sz_drewN] at *; omega)) _ | refine Below.drew ?_ | refine below_drewN_ ?_ _))⟩⟩
                      case measure => (simp [intOf]; try omega)
                    | false =>
                      have HP : Hid (refineC a (nxR T) cls s = leastP (fun t => alikeB a (nxR T) cls t s) d t) := Lib.hid (leastP_no _ H2.out.2.2 hb)
                      go_wp2
                      go_roundw
                      case rel => exact ⟨t, d, zs, by omega, by go_num, Lib.hid ⟨H2.out.1.drewN _, H2.out.2.1, HP.out⟩, ⟨(by repeat (first | exact Below.refl _ _ | exact Since.out (by assumption) | refine Below.alloc ?_ (by first | omega | (simp only [sz_alloc, sz_set, sz_drew, sz_drewN]; omega) | (simp only [sz_alloc, sz_set, sz_drew, sz_drewN] at *; omega)) _ | refine Below.setCell ?_ (by first | omega | (simp only [sz_alloc, sz_set, sz_drew, sz_drewN]; omega) | (simp only [sz_alloc, sz_set, sz_drew, sz_drewN] at *; omega)) _ | refine Below.drew ?_ | refine below_drewN_ ?_ _))⟩⟩
                      case measure => (simp [intOf]; try omega)
          · obtain rfl : n = s := by omega
            cases hsm : sameB cls (refineC L (nxR T) cls) n with
            | true =>
              have HC : Hid (Cls n L (nxR T) (accR T) cls) := Lib.hid (H.out.2.1.stable (fun s a hs ha => ((hR.out s hs).choose_spec.2.2 a ha).2) (sameB_iff.1 hsm))
              have HE : Hid (∀ j, j < n → ys[j]? = some ((cls j : Nat) : Int)) := Lib.hid fun j hj => by rw [H1.out.2.at_ hj, sameB_iff.1 hsm j hj]
              go_wp2
              go_ret
              exact ⟨wo.heap.size, ys, cls, rfl, H1.out.1, HE.out, HC.out, hsn.out.size, below_cat hsn.out hs1.out hsn.out.size⟩
            | false =>
              have HP : Hid (pot (refineC L (nxR T) cls) n < pot cls n) := Lib.hid (refine_pot H.out.2.1 n300 hsm)
              go_wp2
              go_roundw
              case rel => exact ⟨_, ys, refineC L (nxR T) cls, rfl, hsn.out.size, Lib.hid ⟨H1.out.1, H.out.2.1.next (L := L) (nx := nxR T) (fun _ _ => rfl), fun j hj => H1.out.2.at_ hj⟩, ⟨below_cat hsn.out hs1.out hsn.out.size⟩⟩
              case measure =>
                have m1 := potV_eq (n := n) (c := n) H1.out.1 (fun j hj => H1.out.2.at_ hj)
                have m2 := potV_eq (n := n) (c := n) H.out.1 H.out.2.2
                have m3 := HP.out
                simp only [m1, m2]
                exact m3
end Go.Proofs.Ytpknkaidmefenaa
