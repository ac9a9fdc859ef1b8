/-
  Contract of the reference's tidy reader. Conditions: those in the statement.
-/
import Derived.Test.YtpknkaidmefenaaTidyLaw2
import Derived.Test.YtpknkaidmefenaaClsS
import Derived.Test.YtpknkaidmefenaaTail
import Derived.BigQuiet
set_option linter.unusedVariables false
set_option linter.unusedSimpArgs false
set_option maxRecDepth 100000
set_option maxHeartbeats 1000000
namespace Go.Proofs.Ytpknkaidmefenaa
open Go.RowKit

/-- It returns a reader that takes the same words. -/
def RetAl (T : Rr) (w : World) (e : Ending) (w' : World) : Prop := ∃ v U, e = .returned v ∧ RdRr w' w'.heap.size v U ∧ Alike T U ∧ Below w.heap.size w w'

set_option maxHeartbeats 8000000 in
theorem l01Tidy (b : Nat) (A1 : Option Addr) (c1 : Nat) (A2 : Option Addr) (c2 : Nat) (T : Rr) (w : World) (q0 : w.cell? ⟨b, 0, none⟩ = some (.int .i64 T.letters)) (q1 : w.cell? ⟨b, 1, none⟩ = some (.int .i64 T.start)) (q2 : w.cell? ⟨b, 2, none⟩ = some (.slice A1 T.accept.length c1)) (q3 : w.cell? ⟨b, 3, none⟩ = some (.slice A2 T.next.length c2)) (hbw : b < w.heap.size)
    (r1 : RdS w w.heap.size A1 T.accept) (r2 : RdS w w.heap.size A2 T.next) (OK : T.Ok) :
    Calls Try.prog 20 #[.pointer (some ⟨b, 0, none⟩)] w (RetAl T w) := by
  have HO := Lib.hid OK
  obtain ⟨l1, l3, n1, n300, s0, s1, hsame, hrow⟩ := OK
  obtain ⟨st, hst⟩ := Int.eq_ofNat_of_zero_le s0
  obtain ⟨n, hn⟩ : ∃ n, T.accept.length = n := ⟨_, rfl⟩
  obtain ⟨L, hL⟩ : ∃ L : Nat, T.letters.toNat = L := ⟨_, rfl⟩
  have HN := Lib.hid hn
  have HL := Lib.hid hL
  have HS := Lib.hid hsame
  have HST := Lib.hid hst
  have hT : Hid (∀ s, s < n → T.accept[s]? = some (accR T s)) := Lib.hid fun s hs => acc_at0 (by omega)
  have hR : Hid (∀ s, s < n → ∃ r, T.next[s]? = some r ∧ r.length = L ∧ ∀ a, a < L → r[a]? = some ((nxR T s a : Nat) : Int) ∧ nxR T s a < n) := Lib.hid fun s hs => by
    obtain ⟨r, h1, h2, h3⟩ := row_at0 HO.out (s := s) (by omega)
    have h4 : r.length = L := by omega
    rw [hn, h4] at h3
    exact ⟨r, h1, h4, h3⟩
  have hC := Lib.hid (fun W B1 B2 B3 B4 B5 => l01Classes b A1 c1 A2 c2 T W B1 B2 B3 B4 B5 HO.out)
  unfold RetCls at hC
  rw [hn] at q2 n1 n300 hC
  have q3' : w.cell? ⟨b, 3, none⟩ = some (.slice A2 n c2) := by rw [q3, hsame, hn]
  rw [hst] at q1
  have hLl : T.letters = (L : Int) := by omega
  have hstn : st < n := by omega
  rw [hLl] at q0
  have hL3 : L ≤ 3 := by omega
  have HLL := Lib.hid hLl
  clear hsame hrow s0 s1 hn hL l1 l3 hst hLl
  go_enter Try.func20, Try.ntmps20
  go_wp2_with fail
  refine (hC.out _ (by go_simp) (by go_simp) (by first | omega | (simp only [sz_alloc, sz_set, sz_drew, sz_drewN]; omega) | (simp only [sz_alloc, sz_set, sz_drew, sz_drewN] at *; omega)) (r1.up (by repeat (first | exact Below.refl _ _ | exact Since.out (by assumption) | refine Below.alloc ?_ (by first | omega | (simp only [sz_alloc, sz_set, sz_drew, sz_drewN]; omega) | (simp only [sz_alloc, sz_set, sz_drew, sz_drewN] at *; omega)) _ | refine Below.setCell ?_ (by first | omega | (simp only [sz_alloc, sz_set, sz_drew, sz_drewN]; omega) | (simp only [sz_alloc, sz_set, sz_drew, sz_drewN] at *; omega)) _ | refine Below.drew ?_ | refine below_drewN_ ?_ _))) (r2.up (by repeat (first | exact Below.refl _ _ | exact Since.out (by assumption) | refine Below.alloc ?_ (by first | omega | (simp only [sz_alloc, sz_set, sz_drew, sz_drewN]; omega) | (simp only [sz_alloc, sz_set, sz_drew, sz_drewN] at *; omega)) _ | refine Below.setCell ?_ (by first | omega | (simp only [sz_alloc, sz_set, sz_drew, sz_drewN]; omega) | (simp only [sz_alloc, sz_set, sz_drew, sz_drewN] at *; omega)) _ | refine Below.drew ?_ | refine below_drewN_ ?_ _)))).mono ?_
  rintro e w1 ⟨gc, cl, cls, rfl, HI, hcl, HC, hgc, hb1⟩
  have HBw1 : Since w w1 := ⟨below_cat (by repeat (first | exact Below.refl _ _ | exact Since.out (by assumption) | refine Below.alloc ?_ (by first | omega | (simp only [sz_alloc, sz_set, sz_drew, sz_drewN]; omega) | (simp only [sz_alloc, sz_set, sz_drew, sz_drewN] at *; omega)) _ | refine Below.setCell ?_ (by first | omega | (simp only [sz_alloc, sz_set, sz_drew, sz_drewN]; omega) | (simp only [sz_alloc, sz_set, sz_drew, sz_drewN] at *; omega)) _ | refine Below.drew ?_ | refine below_drewN_ ?_ _)) hb1 (by first | omega | (simp only [sz_alloc, sz_set, sz_drew, sz_drewN]; omega) | (simp only [sz_alloc, sz_set, sz_drew, sz_drewN] at *; omega))⟩; have hzw1 := hb1.size; (try simp only [sz_alloc, sz_set, sz_drew, sz_drewN] at hzw1); have hcw1k0 := fun o => hb1.cell (p := ⟨w.heap.size, o, none⟩) (by first | omega | (simp only [sz_alloc, sz_set, sz_drew, sz_drewN]; omega) | (simp only [sz_alloc, sz_set, sz_drew, sz_drewN] at *; omega)); have hfw1k0 := fun o => hb1.frozen (p := ⟨w.heap.size, o, none⟩) (by first | omega | (simp only [sz_alloc, sz_set, sz_drew, sz_drewN]; omega) | (simp only [sz_alloc, sz_set, sz_drew, sz_drewN] at *; omega)); have hlw1k0 : w.heap.size < w1.heap.size := (by first | omega | (simp only [sz_alloc, sz_set, sz_drew, sz_drewN]; omega) | (simp only [sz_alloc, sz_set, sz_drew, sz_drewN] at *; omega))
  have HHI := Lib.hid HI
  have HHC := Lib.hid HC
  have HCL := Lib.hid hcl
  have hgc1 := HI.lt
  have cst := HI.cell (hcl st hstn)
  have e0 : w1.cell? ⟨b, 0, none⟩ = some (.int .i64 (L : Int)) := (HBw1.out.cell (p := ⟨b, 0, none⟩) hbw).trans q0
  have e1 : w1.cell? ⟨b, 1, none⟩ = some (.int .i64 (st : Int)) := (HBw1.out.cell (p := ⟨b, 1, none⟩) hbw).trans q1
  have hbw1 : b < w1.heap.size := Nat.lt_of_lt_of_le hbw HBw1.out.size
  have i0 : (0 : Int) ≤ (st : Int) := by omega
  have i1 : (st : Int) < (n : Int) := by omega
  clear HI HC hcl hC
  go_wp2
  have HM0 : Hid (MetOk n [cls st] ∧ ([cls st] : List Nat)[0]? = some (cls st)) := Lib.hid ⟨⟨by simp, fun s hs => by
    obtain rfl := List.mem_singleton.1 hs
    have := HHC.out.lt st hstn
    exact this⟩, rfl⟩
  have hbgc : gc < w1.heap.size := hgc1
  go_loopw [4, 6] (fun mv i wr => ∃ (ms : List Nat) (A1 : Option Addr) (c1 i0 : Nat) (A3 : Option Addr) (c3 : Nat) (A4 : Option Addr) (c4 : Nat) (accs : List Bool) (rows : List (List Int)) (bs : List Nat), i0 ≤ ms.length ∧ mv = .slice A1 ms.length c1 ∧ i = .int .i64 (i0 : Int) ∧ Hid (MetOk n ms ∧ ms[0]? = some (cls st)) ∧ Hid (RowsOk L (nxR T) (accR T) cls ms i0 rows accs) ∧
      Hid (wr.heap[w1.heap.size + 1]? = some (.cells #[.int .i64 (L : Int), .int .i64 0, .slice A3 i0 c3, .slice A4 i0 c4] 29 (0, 0))) ∧ Hid (Acc wr w1.heap.size 2 A1 ms.length c1 (iL ms) []) ∧ Hid (AccN wr (w1.heap.size + 2) 4 33 A3 i0 c3 accs A4 i0 c4 rows bs) ∧
      Hid (Dif A1 A3 ∧ Dif A1 A4 ∧ Off A1 bs ∧ ∀ a, A1 = some a → a.block ≠ w1.heap.size + 1) ∧ w1.heap.size + 2 ≤ wr.heap.size ∧ Since w1 wr) (fun _ i _ => n + 1 - (intOf i).toNat)
  case atStart =>
    refine ⟨[cls st], some ⟨w1.heap.size, 0, none⟩, 1, 0, none, 0, none, 0, [], [], [], Nat.zero_le _, rfl, rfl, HM0, Lib.hid RowsOk.start, Lib.hid (new_block (by simp)), Lib.hid ?_, Lib.hid (AccN.nil_ _ _ _ _), Lib.hid ⟨fun a a' _ h => (by cases h), fun a a' _ h => (by cases h), fun a _ hm => (by cases hm), fun a h => (by injection h with h; subst h; simp)⟩, (by first | omega | (simp only [sz_alloc, sz_set, sz_drew, sz_drewN]; omega) | (simp only [sz_alloc, sz_set, sz_drew, sz_drewN] at *; omega)), ⟨(by repeat (first | exact Below.refl _ _ | refine Below.alloc ?_ (by first | omega | (simp only [sz_alloc, sz_set, sz_drew, sz_drewN]; omega) | (simp only [sz_alloc, sz_set, sz_drew, sz_drewN] at *; omega)) _ | refine Below.setCell ?_ (by first | omega | (simp only [sz_alloc, sz_set, sz_drew, sz_drewN]; omega) | (simp only [sz_alloc, sz_set, sz_drew, sz_drewN] at *; omega)) _ | refine Below.drew ?_ | refine below_drewN_ ?_ _))⟩⟩
    exact Acc.one_ (cs := [.int .i64 (cls st : Int)]) (alloc_block (new_block rfl) (by simp)) (Nat.le_refl _) ⟨rfl, rfl⟩ (fun u hu => by (simp at hu; subst hu; rfl))
  case round =>
    obtain ⟨ms, M1, m1, i, A3, c3, A4, c4, accs, rows, bs, hi, rfl, rfl, HM, HRW, HB, HA1, HA, HD, hz, hs⟩ := hrel
    obtain ⟨wo, rfl⟩ : ∃ wo, wo = wr := ⟨_, rfl⟩
    have hmn : ms.length ≤ n := HM.out.1.len
    by_cases hlt : i < ms.length
    · obtain ⟨x, hx⟩ := get_some hlt
      have hxn : x < n := HM.out.1.lt x (List.mem_of_getElem? hx)
      have HX := Lib.hid hx
      clear hx
      go_wp2
      go_loopw [4, 7, 8] (fun mv rv av wr => ∃ (ms' : List Nat) (M2 : Option Addr) (m2 : Nat) (R : Option Addr) (rc a : Nat) (r : List Int), a ≤ L ∧ mv = .slice M2 ms'.length m2 ∧ rv = .slice R a rc ∧ av = .int .i64 (a : Int) ∧ Hid (MetOk n ms' ∧ (∃ ys, ms' = ms ++ ys) ∧ RowOk (nxR T) cls ms' x a r) ∧ Hid (Acc wr w1.heap.size 2 M2 ms'.length m2 (iL ms') []) ∧ Hid (Acc wr wo.heap.size 2 R a rc r []) ∧
          Hid (Dif M2 R ∧ (∀ d, M2 = some d → M1 = some d ∨ wo.heap.size ≤ d.block)) ∧ Hid (OnlyB (bl M1) wo wr)) (fun _ _ av _ => L - (intOf av).toNat)
      case atStart => exact ⟨ms, M1, m1, some ⟨wo.heap.size, 0, none⟩, 0, 0, [], Nat.zero_le _, rfl, rfl, rfl, Lib.hid ⟨HM.out.1, ⟨[], by simp⟩, RowOk.nil_⟩, Lib.hid (HA1.out.alloc _), Lib.hid (Acc.empty_ (new_block rfl) (Nat.le_refl _)), Lib.hid ⟨fun d d' h h' e => (by injection h' with h'; subst h'; have := (HA1.out.lt d h).2; simp only at e; omega), fun d h => .inl h⟩, Lib.hid ((OnlyB.refl _ _).alloc _)⟩
      case round =>
        obtain ⟨ms', M2, m2, R, rc, a, r, ha, rfl, rfl, rfl, H2, HA2, HR2, HD2, HO2⟩ := hrel
        obtain ⟨w2, rfl⟩ : ∃ w2, w2 = wr := ⟨_, rfl⟩
        have hmn' : ms'.length ≤ n := H2.out.1.len
        have hz2 : wo.heap.size ≤ w2.heap.size := HO2.out.size
        have hs2 : Since w1 w2 := ⟨hs.out.trans (HO2.out.below (fun g hg => by obtain ⟨d, h1, h2⟩ := mem_bl.1 hg; have := (HA1.out.lt d h1).1; omega) (by omega))⟩
        have hw2 : Since w w2 := ⟨HBw1.out.trans (hs2.out.mono HBw1.out.size)⟩
        have hxi : ms'[i]? = some x := by
          obtain ⟨ys, hys⟩ := H2.out.2.1
          rw [hys, List.getElem?_append_left hlt]
          exact HX.out
        have hil : i < ms'.length := (List.getElem?_eq_some_iff.1 hxi).1
        obtain ⟨bm, om, rfl, hbm, cmx⟩ := HA2.out.rd.int (iL_get hxi)
        obtain ⟨rs, hrs, hls, hns⟩ := hR.out x hxn
        obtain ⟨b', o, Ps, ps, rfl, hbb, cxs, _, rxs⟩ := (r2.up hw2.out).row hrs
        have e3 := (hw2.out.cell (p := ⟨b, 3, none⟩) hbw).trans q3'
        rw [hls] at cxs
        have HNS := Lib.hid hns
        have i2 : (0 : Int) ≤ (i : Int) := by omega
        have i3 : (i : Int) < (ms'.length : Int) := by omega
        have i4 : (0 : Int) ≤ (x : Int) := by omega
        have i5 : (x : Int) < (n : Int) := by omega
        clear hrs hls hns hxi
        by_cases hal : a < L
        · obtain ⟨yn, hyn⟩ := HNS.out a hal
          obtain ⟨_, os, rfl, _, cys⟩ := rxs.int yn
          have hcn : cls (nxR T x a) < n := HHC.out.lt _ hyn
          have cto := (HHI.out.below hs2.out hbgc).cell (HCL.out _ hyn)
          obtain ⟨to, hto⟩ : ∃ to, cls (nxR T x a) = to := ⟨_, rfl⟩
          obtain ⟨y, hy⟩ : ∃ y, nxR T x a = y := ⟨_, rfl⟩
          rw [hto] at cto hcn
          rw [hy] at cto cys hyn
          have HTO := Lib.hid hto
          have i6 : (0 : Int) ≤ (a : Int) := by omega
          have i7 : (a : Int) < (L : Int) := by omega
          have i8 : (0 : Int) ≤ (y : Int) := by omega
          have i9 : (y : Int) < (n : Int) := by omega
          clear yn hto hy
          go_wp2
          go_quiet (fail)
          go_wp2
          go_quiet (fail)
          go_wp2
          go_loopw [10, 11] (fun atv kv wr => ∃ (k m : Nat) (z : Int), k ≤ ms'.length ∧ atv = .int .i64 z ∧ kv = .int .i64 (k : Int) ∧ Hid (FindAt ms' to k z) ∧ wr = w2.drewN m) (fun _ kv _ => ms'.length - (intOf kv).toNat)
          case atStart => exact ⟨0, _, -1, Nat.zero_le _, rfl, rfl, Lib.hid FindAt.start, World.drewN_drewN _ _ _⟩
          case round =>
            obtain ⟨k, m, z, hk, rfl, rfl, HF, rfl⟩ := hrel
            by_cases hkl : k < ms'.length
            · obtain ⟨u, hu⟩ := get_some hkl
              obtain ⟨_, _, ⟨⟩, _, cmk⟩ := HA2.out.rd.int (iL_get hu)
              have j0 : (0 : Int) ≤ (k : Int) := by omega
              have j1 : (k : Int) < (ms'.length : Int) := by omega
              by_cases hut : u = to
              · have HF2 : Hid (FindAt ms' to (k + 1) (k : Int)) := Lib.hid (FindAt.hit (by rw [hu, hut]))
                have qe : ((u : Int) == (to : Int)) = true := by rw [beq_cast]; exact decide_eq_true hut
                clear hu hut
                go_wp2
                go_roundw
                case rel => exact ⟨k + 1, m, _, by omega, rfl, by go_num, HF2, rfl⟩
                case measure => (simp [intOf]; try omega)
              · have HF2 : Hid (FindAt ms' to (k + 1) z) := Lib.hid (HF.out.miss hu hut)
                have qe : ((u : Int) == (to : Int)) = false := by rw [beq_cast]; exact decide_eq_false hut
                clear hu hut
                go_wp2
                go_roundw
                case rel => exact ⟨k + 1, m, _, by omega, rfl, by go_num, HF2, rfl⟩
                case measure => (simp [intOf]; try omega)
            · obtain rfl : k = ms'.length := by omega
              rcases HF.out.out with ⟨rfl, hnot⟩ | ⟨j, rfl, hj⟩
              · have HNT := Lib.hid hnot
                have HR3 := Lib.hid (HR2.out.drewN m)
                have HA3 := Lib.hid (HA2.out.drewN m)
                have HO3 := Lib.hid (HO2.out.drewN m)
                clear hnot
                go_wp2_with (first
                  | (at_builtin; refine wpList_push (α := Int) _ rfl (.tmp 82) (.tmp 84) 33 rfl w1.heap.size 2 (.int .i64 0) 8 Try.underlying33 infoInt64S rfl (some ⟨bm, om, none⟩) ms'.length m2 _ [] rfl (HA3.out.alloc _) w2.heap.size 1 rfl (to : Int) [.int .i64 (to : Int)] [] ⟨rfl, rfl⟩ (new_cells (by first | rfl | simp [sz_set])) (fun u hu => by (simp at hu; subst hu; rfl)) ⟨List.nodup_nil, fun g hg => by simp at hg⟩ (fun g hg => by simp at hg) (by omega) (by omega) (by first | omega | (simp only [sz_alloc, sz_set, sz_drew, sz_drewN]; omega) | (simp only [sz_alloc, sz_set, sz_drew, sz_drewN] at *; omega)) ?_
                     intro M3 m3 w4 hacc hgr hnew
                     have HA4 : Hid (Acc w4 w1.heap.size 2 M3 (ms'.length + 1) m3 (iL (ms' ++ [to])) []) := Lib.hid (by rw [iL_snoc]; exact hacc)
                     have HR4 := Lib.hid ((HR3.out.alloc _).other hgr HD2.out.1 (fun _ _ hm => by simp at hm))
                     have HO4 := Lib.hid ((HO3.out.alloc _).grew hgr (fun d hd => (HD2.out.2 d hd).imp_left (fun h => mem_bl.2 ⟨d, h, rfl⟩)))
                     have HD4 : Hid (Dif M3 R ∧ ∀ d, M3 = some d → M1 = some d ∨ wo.heap.size ≤ d.block) := Lib.hid ⟨Dif.grow HD2.out.1 (fun a ha => ((HR3.out.alloc (.cells #[] 2)).lt a ha).2) (fun a ha => by simpa using hnew a ha), fun d hd => (hnew d hd).elim (fun h => HD2.out.2 d h) (fun h => .inr (by (simp only [sz_alloc, sz_drewN] at h); omega))⟩
                     have hz4 : w2.heap.size ≤ w4.heap.size := Nat.le_trans (by first | omega | (simp only [sz_alloc, sz_set, sz_drew, sz_drewN]; omega) | (simp only [sz_alloc, sz_set, sz_drew, sz_drewN] at *; omega)) hgr.size
                     clear hacc hgr hnew)
                  | (at_builtin; refine wpList_push (α := Int) _ rfl (.tmp 86) (.tmp 88) 33 rfl wo.heap.size 2 (.int .i64 0) 8 Try.underlying33 infoInt64S rfl R a rc _ [] rfl (HR4.out.alloc _) w4.heap.size 1 rfl (ms'.length : Int) [.int .i64 (ms'.length : Int)] [] ⟨rfl, rfl⟩ (new_cells (by first | rfl | simp [sz_set])) (fun u hu => by (simp at hu; subst hu; rfl)) ⟨List.nodup_nil, fun g hg => by simp at hg⟩ (fun g hg => by simp at hg) (by omega) (by omega) (by first | omega | (simp only [sz_alloc, sz_set, sz_drew, sz_drewN]; omega) | (simp only [sz_alloc, sz_set, sz_drew, sz_drewN] at *; omega)) ?_
                     intro R5 rc5 w5 hacc hgr hnew
                     have HR5 := Lib.hid hacc
                     have HA5 := Lib.hid ((HA4.out.alloc _).other hgr HD4.out.1.symm (fun _ _ hm => by simp at hm))
                     have HO5 := Lib.hid ((HO4.out.alloc _).grew hgr (fun d hd => .inr (HR4.out.lt d hd).1))
                     have HD5 : Hid (Dif M3 R5 ∧ ∀ d, M3 = some d → M1 = some d ∨ wo.heap.size ≤ d.block) := Lib.hid ⟨(Dif.grow HD4.out.1.symm (fun a ha => ((HA4.out.alloc (.cells #[] 2)).lt a ha).2) (fun a ha => by simpa using hnew a ha)).symm, HD4.out.2⟩
                     clear hacc hgr hnew))
                go_roundw
                case rel =>
                  refine ⟨ms' ++ [to], M3, m3, R5, rc5, a + 1, r ++ [(ms'.length : Int)], by omega, by (rw [List.length_append]; rfl), rfl, by go_num, Lib.hid ⟨H2.out.1.snoc HNT.out hcn, ?_, (H2.out.2.2.ext [to]).snoc (by rw [HTO.out]; simp)⟩, Lib.hid (by rw [List.length_append]; exact HA5.out), HR5, HD5, HO5⟩
                  obtain ⟨ys, hys⟩ := H2.out.2.1
                  exact ⟨ys ++ [to], by rw [hys, List.append_assoc]⟩
                case measure => (simp [intOf]; try omega)
              · have HJ := Lib.hid hj
                have jn : ¬ (j : Int) < 0 := by omega
                have HR3 := Lib.hid (HR2.out.drewN m)
                have HA3 := Lib.hid (HA2.out.drewN m)
                have HO3 := Lib.hid (HO2.out.drewN m)
                clear hj
                obtain ⟨M3, hM3⟩ : ∃ M3 : Option Addr, M3 = some ⟨bm, om, none⟩ := ⟨_, rfl⟩
                rw [← hM3] at HA3 HD2
                go_wp2_with (at_builtin; refine wpList_push (α := Int) _ rfl (.tmp 86) (.tmp 88) 33 rfl wo.heap.size 2 (.int .i64 0) 8 Try.underlying33 infoInt64S rfl R a rc _ [] rfl (HR3.out.alloc _) w2.heap.size 1 rfl (j : Int) [.int .i64 (j : Int)] [] ⟨rfl, rfl⟩ (new_cells (by first | rfl | simp [sz_set])) (fun u hu => by (simp at hu; subst hu; rfl)) ⟨List.nodup_nil, fun g hg => by simp at hg⟩ (fun g hg => by simp at hg) (by omega) (by omega) (by first | omega | (simp only [sz_alloc, sz_set, sz_drew, sz_drewN]; omega) | (simp only [sz_alloc, sz_set, sz_drew, sz_drewN] at *; omega)) ?_
                             intro R5 rc5 w5 hacc hgr hnew
                             have HR5 := Lib.hid hacc
                             have HA5 := Lib.hid ((HA3.out.alloc _).other hgr HD2.out.1.symm (fun _ _ hm => by simp at hm))
                             have HO5 := Lib.hid ((HO3.out.alloc _).grew hgr (fun d hd => .inr (HR3.out.lt d hd).1))
                             have HD5 : Hid (Dif M3 R5 ∧ ∀ d, M3 = some d → M1 = some d ∨ wo.heap.size ≤ d.block) := Lib.hid ⟨(Dif.grow HD2.out.1.symm (fun a ha => ((HA3.out.alloc (.cells #[] 2)).lt a ha).2) (fun a ha => by simpa using hnew a ha)).symm, HD2.out.2⟩
                             clear hacc hgr hnew)
                go_roundw
                case rel => exact ⟨ms', M3, m2, R5, rc5, a + 1, r ++ [(j : Int)], by omega, by rw [hM3], rfl, by go_num, Lib.hid ⟨H2.out.1, H2.out.2.1, H2.out.2.2.snoc (by rw [HTO.out]; exact HJ.out)⟩, HA5, HR5, HD5, HO5⟩
                case measure => (simp [intOf]; try omega)
        · obtain rfl : L = a := by omega
          have HA2' : Hid (AccN w2 (w1.heap.size + 2) 4 33 A3 i c3 accs A4 i c4 rows bs) := Lib.hid ⟨HO2.out.acc HA.out.one HD.out.1 (fun _ _ hm => by simp at hm), HO2.out.acc HA.out.two HD.out.2.1 HD.out.2.2.1, HA.out.dis, HA.out.out⟩
          obtain ⟨M2, hM2⟩ : ∃ M2 : Option Addr, M2 = some ⟨bm, om, none⟩ := ⟨_, rfl⟩
          rw [← hM2] at HA2 HD2
          obtain ⟨br, hor, hfr, hbr⟩ := HR2.out.own
          have HB2 : Hid (w2.heap[w1.heap.size + 1]? = some (.cells #[.int .i64 (L : Int), .int .i64 0, .slice A3 i c3, .slice A4 i c4] 29 (0, 0))) := Lib.hid ((HO2.out.block _ (by omega) (fun hm => by obtain ⟨d, h1, h2⟩ := mem_bl.1 hm; exact HD.out.2.2.2 d h1 h2)).trans HB.out)
          have HDM : Hid (Dif M2 A3 ∧ Dif M2 A4 ∧ Off M2 bs ∧ (∀ a, M2 = some a → a.block ≠ w1.heap.size + 1) ∧ Off M2 br) := Lib.hid ⟨HD.out.1.grow (fun a ha => (HA.out.one.lt a ha).2) HD2.out.2, HD.out.2.1.grow (fun a ha => (HA.out.two.lt a ha).2) HD2.out.2, HD.out.2.2.1.grow (fun g hg => (HA.out.two.fresh.2 g hg).2) HD2.out.2,
            fun a ha e => (HD2.out.2 a ha).elim (fun h => HD.out.2.2.2 a h e) (fun h => by omega), fun a ha hm => (hbr _ hm).elim (fun ⟨d, h1, h2⟩ => HD2.out.1 a d ha h1 h2.symm) (fun h => by simp at h)⟩
          have HRB : Hid (OwnS w2 R r br ∧ Fresh wo.heap.size w2 br ∧ r.length = L) := Lib.hid ⟨hor, hfr, H2.out.2.2.1⟩
          have HBR : Hid (∀ g ∈ br, g ∉ bs ∧ (∀ a, A4 = some a → a.block ≠ g) ∧ ∀ a, A3 = some a → a.block ≠ g) := Lib.hid fun g hg => ⟨fun hm => by have := (HA.out.two.fresh.2 g hm).2; have := (hfr.2 g hg).1; omega, fun a ha e => by have := (HA.out.two.lt a ha).2; have := (hfr.2 g hg).1; omega, fun a ha e => by have := (HA.out.one.lt a ha).2; have := (hfr.2 g hg).1; omega⟩
          have k3 := cell_of_row w2 (w1.heap.size + 1) 3 _ _ (0, 0) HB2.out
          have kf : ∀ o, w2.frozen? ⟨w1.heap.size + 1, o, none⟩ = false := fun o => blk_free HB2.out
          have hz1 : w1.heap.size + 1 < w2.heap.size := by omega
          clear hor hfr hbr
          go_wp2
          go_quiet (fail)
          have HA3 := Lib.hid (HA2'.out.drewN nq)
          have HM3 := Lib.hid (HA2.out.drewN nq)
          have HR3 : Hid (∀ o, OwnS ((w2.drewN nq).alloc o) R r br) := Lib.hid fun o => HRB.out.1.keep fun g hg => Below.block (B := w2.heap.size) (by repeat (first | exact Below.refl _ _ | refine Below.alloc ?_ (by first | omega | (simp only [sz_alloc, sz_set, sz_drew, sz_drewN]; omega) | (simp only [sz_alloc, sz_set, sz_drew, sz_drewN] at *; omega)) _ | refine Below.setCell ?_ (by first | omega | (simp only [sz_alloc, sz_set, sz_drew, sz_drewN]; omega) | (simp only [sz_alloc, sz_set, sz_drew, sz_drewN] at *; omega)) _ | refine Below.drew ?_ | refine below_drewN_ ?_ _)) g (HRB.out.2.1.2 g hg).2
          have HB3 : Hid ((w2.drewN nq).heap[w1.heap.size + 1]? = some (.cells #[.int .i64 (L : Int), .int .i64 0, .slice A3 i c3, .slice A4 i c4] 29 (0, 0))) := HB2
          have HS3 : Since w1 (w2.drewN nq) := ⟨(by repeat (first | exact Below.refl _ _ | exact Since.out (by assumption) | refine Below.alloc ?_ (by first | omega | (simp only [sz_alloc, sz_set, sz_drew, sz_drewN]; omega) | (simp only [sz_alloc, sz_set, sz_drew, sz_drewN] at *; omega)) _ | refine Below.setCell ?_ (by first | omega | (simp only [sz_alloc, sz_set, sz_drew, sz_drewN]; omega) | (simp only [sz_alloc, sz_set, sz_drew, sz_drewN] at *; omega)) _ | refine Below.drew ?_ | refine below_drewN_ ?_ _))⟩
          go_wp2_with (at_builtin; refine wpList_push (α := List Int) _ rfl (.tmp 91) (.tmp 93) 23 rfl (w1.heap.size + 2) 33 (.slice none 0 0) 24 Try.underlying23 infoInt64SS rfl A4 i c4 _ bs rfl (HA3.out.two.alloc _) w2.heap.size 1 rfl r [.slice R L rc] br ⟨R, rc, by rw [HRB.out.2.2], by rw [HRB.out.2.2]; omega, HR3.out _⟩ (new_cells (by first | rfl | simp [sz_set])) (fun u hu => by (simp at hu; subst hu; rfl)) ⟨HRB.out.2.1.1, fun g hg => ⟨by have := (HRB.out.2.1.2 g hg).1; omega, by have := (HRB.out.2.1.2 g hg).2; simp only [sz_alloc, sz_drewN]; omega⟩⟩ (fun g' hg' => ⟨(HBR.out g' hg').1, (HBR.out g' hg').2.1⟩) (by omega) (by omega) (by first | omega | (simp only [sz_alloc, sz_set, sz_drew, sz_drewN]; omega) | (simp only [sz_alloc, sz_set, sz_drew, sz_drewN] at *; omega)) ?_
                       intro D4 d4 w4 hacc hgr hnew
                       have HA4 := Lib.hid ((HA3.out.alloc (.cells #[.slice R L rc] 33)).grow2 hacc hgr hnew (fun g hg a ha => (HBR.out g hg).2.2 a ha))
                       have HM4 := Lib.hid ((HM3.out.alloc (.cells #[.slice R L rc] 33)).other hgr HDM.out.2.1.symm (fun _ _ hm => by simp at hm))
                       have HD4 : Hid (Dif M2 D4 ∧ Off M2 (bs ++ br)) := Lib.hid ⟨(Dif.grow HDM.out.2.1.symm (fun a ha => ((HM3.out.alloc (.cells #[.slice R L rc] 33)).lt a ha).2) hnew).symm, fun a ha hm => (List.mem_append.1 hm).elim (HDM.out.2.2.1 a ha) (HDM.out.2.2.2.2 a ha)⟩
                       have hB4 := (HA3.out.two.alloc (.cells #[.slice R L rc] 33)).box hgr (alloc_block HB3.out hz1) (by omega)
                       have HB4 := Lib.hid hB4
                       have f4 : w4.frozen? ⟨w1.heap.size + 1, 3, none⟩ = false := blk_free hB4
                       have k4 : w4.cell? ⟨w1.heap.size + 1, 3, none⟩ = some (.slice A4 i c4) := cell_of_row w4 _ 3 _ _ (0, 0) hB4
                       have HS4 : Since w1 w4 := ⟨Acc.since (HA3.out.two.alloc (.cells #[.slice R L rc] 33)) hgr (HS3.out.alloc (by first | omega | (simp only [sz_alloc, sz_set, sz_drew, sz_drewN]; omega) | (simp only [sz_alloc, sz_set, sz_drew, sz_drewN] at *; omega)) _) (by omega) (by first | omega | (simp only [sz_alloc, sz_set, sz_drew, sz_drewN]; omega) | (simp only [sz_alloc, sz_set, sz_drew, sz_drewN] at *; omega))⟩
                       have hz4 : w2.heap.size ≤ w4.heap.size := Nat.le_trans (by first | omega | (simp only [sz_alloc, sz_set, sz_drew, sz_drewN]; omega) | (simp only [sz_alloc, sz_set, sz_drew, sz_drewN] at *; omega)) hgr.size
                       have hg4 : w1.heap.size + 1 < w4.heap.size := (Array.getElem?_eq_some_iff.1 hB4).1
                       clear hacc hgr hnew hB4)
          obtain ⟨W, hW⟩ : ∃ W, W = w4.setCell ⟨w1.heap.size + 1, 3, none⟩ (.slice D4 (i + 1) d4) := ⟨_, rfl⟩
          have HBW : Hid (W.heap[w1.heap.size + 1]? = some (.cells #[.int .i64 (L : Int), .int .i64 0, .slice A3 i c3, .slice D4 (i + 1) d4] 29 (0, 0))) := Lib.hid (by rw [hW]; exact blk_set HB4.out _)
          have HAW : Hid (AccN W (w1.heap.size + 2) 4 33 A3 i c3 accs D4 (i + 1) d4 (rows ++ [r]) (bs ++ br)) := Lib.hid (by rw [hW]; exact HA4.out.setCell (by simp only; omega) _)
          have HMW : Hid (Acc W w1.heap.size 2 M2 ms'.length m2 (iL ms') []) := Lib.hid (by rw [hW]; exact HM4.out.setCell (fun a ha => HDM.out.2.2.2.1 a ha) (by simp) _)
          have HSW : Since w1 W := ⟨by rw [hW]; exact HS4.out.setCell (Nat.le_add_right _ _) _⟩
          have hzW : w2.heap.size ≤ W.heap.size := by rw [hW, sz_set]; exact hz4
          have HwW : Since w W := ⟨HBw1.out.trans (HSW.out.mono HBw1.out.size)⟩
          rw [← hW]
          clear hW HB4 HA4 HM4 HS4 f4 k4 k3 kf HA3 HM3 HR3 HB3 HS3 hz4 hg4 cmx cxs e3 nq
          have kg2 : W.cell? ⟨w1.heap.size + 1, 2, none⟩ = some (.slice A3 i c3) := cell_of_row W _ 2 _ _ (0, 0) HBW.out
          obtain ⟨b3, o3, rfl, hb3, ca⟩ := (r1.up HwW.out).bool (hT.out x hxn)
          have e2 := (HwW.out.cell (p := ⟨b, 2, none⟩) hbw).trans q2
          obtain ⟨b4, o4, hb4e, hb4, cm⟩ := HMW.out.rd.int (iL_get (by obtain ⟨ys, hys⟩ := H2.out.2.1; rw [hys, List.getElem?_append_left hlt]; exact HX.out : ms'[i]? = some x))
          obtain ⟨rfl, rfl⟩ : b4 = bm ∧ o4 = om := by rw [hM2] at hb4e; simpa [eq_comm] using hb4e
          have hbl : b4 ≠ w1.heap.size + 1 := HDM.out.2.2.2.1 _ hM2
          have hgl : w1.heap.size + 1 < w1.heap.size + 2 := by omega
          have hgo : w1.heap.size + 1 < W.heap.size := by omega
          have hb3l : b3 < w1.heap.size := by have := (r1 _ _ (hT.out x hxn)); obtain ⟨_, _, _, h1, h2, _⟩ := this; injection h1 with h1; injection h1 with h1; omega
          have hbl1 : b < w1.heap.size := hbw1
          have hbW : b < W.heap.size := by omega
          have H43 : Hid (∀ a, A3 = some a → a.block ≠ b4) := Lib.hid (fun a ha e => HDM.out.1 _ a hM2 ha e.symm)
          clear hb4e
          refine Held.begin (fun w' => w'.cell? ⟨w1.heap.size + 1, 2, none⟩ = some (.slice A3 i c3) ∧ w'.cell? ⟨b, 2, none⟩ = some (.slice (some ⟨b3, o3, none⟩) n c1) ∧ w'.cell? ⟨b4, o4 + i, none⟩ = some (.int .i64 (x : Int)) ∧ w'.cell? ⟨b3, o3 + x, none⟩ = some (.bool (accR T x))) 14 (by kernel_rfl) (by (try dsimp only); (first | (go_keep; done) | (and_intros <;> go_simp))) (fun hHeld => ?_); (first | (refine Held.take (i := 0) (v := undef) (by (simp only [List.getElem?_toArray, List.getElem?_cons_succ, List.getElem?_cons_zero]); exact rfl) (by decide) (by kernel_rfl) (by kernel_rfl) (by kernel_rfl) (by kernel_rfl) (by exact fun _ _ _ h => h) (by exact Or.inr ⟨by rfl, rfl⟩) (by assumption) ?_) | (refine Held.take (i := 0) (v := ?_) (by (simp only [List.getElem?_toArray, List.getElem?_cons_succ, List.getElem?_cons_zero]); exact rfl) (by decide) (by kernel_rfl) (by kernel_rfl) (by kernel_rfl) (by kernel_rfl) (by exact fun _ _ _ h => h) (by refine Or.inl ⟨by rfl, ?_⟩; intro wS hSw; (try dsimp only at hSw); go_simp; (try with_reducible rfl)) (by assumption) ?_)); (try simp only [Act.put, List.setIfInBounds_toArray, List.set_cons_zero, List.set_cons_succ]); (first | (refine Held.take (i := 1) (v := undef) (by (simp only [List.getElem?_toArray, List.getElem?_cons_succ, List.getElem?_cons_zero]); exact rfl) (by decide) (by kernel_rfl) (by kernel_rfl) (by kernel_rfl) (by kernel_rfl) (by exact fun _ _ _ h => h) (by exact Or.inr ⟨by rfl, rfl⟩) (by assumption) ?_) | (refine Held.take (i := 1) (v := ?_) (by (simp only [List.getElem?_toArray, List.getElem?_cons_succ, List.getElem?_cons_zero]); exact rfl) (by decide) (by kernel_rfl) (by kernel_rfl) (by kernel_rfl) (by kernel_rfl) (by exact fun _ _ _ h => h) (by refine Or.inl ⟨by rfl, ?_⟩; intro wS hSw; (try dsimp only at hSw); go_simp; (try with_reducible rfl)) (by assumption) ?_)); (try simp only [Act.put, List.setIfInBounds_toArray, List.set_cons_zero, List.set_cons_succ]); (first | (refine Held.take (i := 2) (v := undef) (by (simp only [List.getElem?_toArray, List.getElem?_cons_succ, List.getElem?_cons_zero]); exact rfl) (by decide) (by kernel_rfl) (by kernel_rfl) (by kernel_rfl) (by kernel_rfl) (by exact fun _ _ _ h => h) (by exact Or.inr ⟨by rfl, rfl⟩) (by assumption) ?_) | (refine Held.take (i := 2) (v := ?_) (by (simp only [List.getElem?_toArray, List.getElem?_cons_succ, List.getElem?_cons_zero]); exact rfl) (by decide) (by kernel_rfl) (by kernel_rfl) (by kernel_rfl) (by kernel_rfl) (by exact fun _ _ _ h => h) (by refine Or.inl ⟨by rfl, ?_⟩; intro wS hSw; (try dsimp only at hSw); go_simp; (try with_reducible rfl)) (by assumption) ?_)); (try simp only [Act.put, List.setIfInBounds_toArray, List.set_cons_zero, List.set_cons_succ]); (first | (refine Held.take (i := 3) (v := undef) (by (simp only [List.getElem?_toArray, List.getElem?_cons_succ, List.getElem?_cons_zero]); exact rfl) (by decide) (by kernel_rfl) (by kernel_rfl) (by kernel_rfl) (by kernel_rfl) (by exact fun _ _ _ h => h) (by exact Or.inr ⟨by rfl, rfl⟩) (by assumption) ?_) | (refine Held.take (i := 3) (v := ?_) (by (simp only [List.getElem?_toArray, List.getElem?_cons_succ, List.getElem?_cons_zero]); exact rfl) (by decide) (by kernel_rfl) (by kernel_rfl) (by kernel_rfl) (by kernel_rfl) (by exact fun _ _ _ h => h) (by refine Or.inl ⟨by rfl, ?_⟩; intro wS hSw; (try dsimp only at hSw); go_simp; (try with_reducible rfl)) (by assumption) ?_)); (try simp only [Act.put, List.setIfInBounds_toArray, List.set_cons_zero, List.set_cons_succ]); (first | (refine Held.take (i := 4) (v := undef) (by (simp only [List.getElem?_toArray, List.getElem?_cons_succ, List.getElem?_cons_zero]); exact rfl) (by decide) (by kernel_rfl) (by kernel_rfl) (by kernel_rfl) (by kernel_rfl) (by exact fun _ _ _ h => h) (by exact Or.inr ⟨by rfl, rfl⟩) (by assumption) ?_) | (refine Held.take (i := 4) (v := ?_) (by (simp only [List.getElem?_toArray, List.getElem?_cons_succ, List.getElem?_cons_zero]); exact rfl) (by decide) (by kernel_rfl) (by kernel_rfl) (by kernel_rfl) (by kernel_rfl) (by exact fun _ _ _ h => h) (by refine Or.inl ⟨by rfl, ?_⟩; intro wS hSw; (try dsimp only at hSw); go_simp; (try with_reducible rfl)) (by assumption) ?_)); (try simp only [Act.put, List.setIfInBounds_toArray, List.set_cons_zero, List.set_cons_succ]); (first | (refine Held.take (i := 5) (v := undef) (by (simp only [List.getElem?_toArray, List.getElem?_cons_succ, List.getElem?_cons_zero]); exact rfl) (by decide) (by kernel_rfl) (by kernel_rfl) (by kernel_rfl) (by kernel_rfl) (by exact fun _ _ _ h => h) (by exact Or.inr ⟨by rfl, rfl⟩) (by assumption) ?_) | (refine Held.take (i := 5) (v := ?_) (by (simp only [List.getElem?_toArray, List.getElem?_cons_succ, List.getElem?_cons_zero]); exact rfl) (by decide) (by kernel_rfl) (by kernel_rfl) (by kernel_rfl) (by kernel_rfl) (by exact fun _ _ _ h => h) (by refine Or.inl ⟨by rfl, ?_⟩; intro wS hSw; (try dsimp only at hSw); go_simp; (try with_reducible rfl)) (by assumption) ?_)); (try simp only [Act.put, List.setIfInBounds_toArray, List.set_cons_zero, List.set_cons_succ]); (first | (refine Held.take (i := 6) (v := undef) (by (simp only [List.getElem?_toArray, List.getElem?_cons_succ, List.getElem?_cons_zero]); exact rfl) (by decide) (by kernel_rfl) (by kernel_rfl) (by kernel_rfl) (by kernel_rfl) (by exact fun _ _ _ h => h) (by exact Or.inr ⟨by rfl, rfl⟩) (by assumption) ?_) | (refine Held.take (i := 6) (v := ?_) (by (simp only [List.getElem?_toArray, List.getElem?_cons_succ, List.getElem?_cons_zero]); exact rfl) (by decide) (by kernel_rfl) (by kernel_rfl) (by kernel_rfl) (by kernel_rfl) (by exact fun _ _ _ h => h) (by refine Or.inl ⟨by rfl, ?_⟩; intro wS hSw; (try dsimp only at hSw); go_simp; (try with_reducible rfl)) (by assumption) ?_)); (try simp only [Act.put, List.setIfInBounds_toArray, List.set_cons_zero, List.set_cons_succ]); (first | (refine Held.take (i := 7) (v := undef) (by (simp only [List.getElem?_toArray, List.getElem?_cons_succ, List.getElem?_cons_zero]); exact rfl) (by decide) (by kernel_rfl) (by kernel_rfl) (by kernel_rfl) (by kernel_rfl) (by exact fun _ _ _ h => h) (by exact Or.inr ⟨by rfl, rfl⟩) (by assumption) ?_) | (refine Held.take (i := 7) (v := ?_) (by (simp only [List.getElem?_toArray, List.getElem?_cons_succ, List.getElem?_cons_zero]); exact rfl) (by decide) (by kernel_rfl) (by kernel_rfl) (by kernel_rfl) (by kernel_rfl) (by exact fun _ _ _ h => h) (by refine Or.inl ⟨by rfl, ?_⟩; intro wS hSw; (try dsimp only at hSw); go_simp; (try with_reducible rfl)) (by assumption) ?_)); (try simp only [Act.put, List.setIfInBounds_toArray, List.set_cons_zero, List.set_cons_succ]); (first | (refine Held.take (i := 8) (v := undef) (by (simp only [List.getElem?_toArray, List.getElem?_cons_succ, List.getElem?_cons_zero]); exact rfl) (by decide) (by kernel_rfl) (by kernel_rfl) (by kernel_rfl) (by kernel_rfl) (by exact fun _ _ _ h => h) (by exact Or.inr ⟨by rfl, rfl⟩) (by assumption) ?_) | (refine Held.take (i := 8) (v := ?_) (by (simp only [List.getElem?_toArray, List.getElem?_cons_succ, List.getElem?_cons_zero]); exact rfl) (by decide) (by kernel_rfl) (by kernel_rfl) (by kernel_rfl) (by kernel_rfl) (by exact fun _ _ _ h => h) (by refine Or.inl ⟨by rfl, ?_⟩; intro wS hSw; (try dsimp only at hSw); go_simp; (try with_reducible rfl)) (by assumption) ?_)); (try simp only [Act.put, List.setIfInBounds_toArray, List.set_cons_zero, List.set_cons_succ]); (first | (refine Held.take (i := 9) (v := undef) (by (simp only [List.getElem?_toArray, List.getElem?_cons_succ, List.getElem?_cons_zero]); exact rfl) (by decide) (by kernel_rfl) (by kernel_rfl) (by kernel_rfl) (by kernel_rfl) (by exact fun _ _ _ h => h) (by exact Or.inr ⟨by rfl, rfl⟩) (by assumption) ?_) | (refine Held.take (i := 9) (v := ?_) (by (simp only [List.getElem?_toArray, List.getElem?_cons_succ, List.getElem?_cons_zero]); exact rfl) (by decide) (by kernel_rfl) (by kernel_rfl) (by kernel_rfl) (by kernel_rfl) (by exact fun _ _ _ h => h) (by refine Or.inl ⟨by rfl, ?_⟩; intro wS hSw; (try dsimp only at hSw); go_simp; (try with_reducible rfl)) (by assumption) ?_)); (try simp only [Act.put, List.setIfInBounds_toArray, List.set_cons_zero, List.set_cons_succ]); (first | (refine Held.take (i := 10) (v := undef) (by (simp only [List.getElem?_toArray, List.getElem?_cons_succ, List.getElem?_cons_zero]); exact rfl) (by decide) (by kernel_rfl) (by kernel_rfl) (by kernel_rfl) (by kernel_rfl) (by exact fun _ _ _ h => h) (by exact Or.inr ⟨by rfl, rfl⟩) (by assumption) ?_) | (refine Held.take (i := 10) (v := ?_) (by (simp only [List.getElem?_toArray, List.getElem?_cons_succ, List.getElem?_cons_zero]); exact rfl) (by decide) (by kernel_rfl) (by kernel_rfl) (by kernel_rfl) (by kernel_rfl) (by exact fun _ _ _ h => h) (by refine Or.inl ⟨by rfl, ?_⟩; intro wS hSw; (try dsimp only at hSw); go_simp; (try with_reducible rfl)) (by assumption) ?_)); (try simp only [Act.put, List.setIfInBounds_toArray, List.set_cons_zero, List.set_cons_succ]); (first | (refine Held.take (i := 11) (v := undef) (by (simp only [List.getElem?_toArray, List.getElem?_cons_succ, List.getElem?_cons_zero]); exact rfl) (by decide) (by kernel_rfl) (by kernel_rfl) (by kernel_rfl) (by kernel_rfl) (by exact fun _ _ _ h => h) (by exact Or.inr ⟨by rfl, rfl⟩) (by assumption) ?_) | (refine Held.take (i := 11) (v := ?_) (by (simp only [List.getElem?_toArray, List.getElem?_cons_succ, List.getElem?_cons_zero]); exact rfl) (by decide) (by kernel_rfl) (by kernel_rfl) (by kernel_rfl) (by kernel_rfl) (by exact fun _ _ _ h => h) (by refine Or.inl ⟨by rfl, ?_⟩; intro wS hSw; (try dsimp only at hSw); go_simp; (try with_reducible rfl)) (by assumption) ?_)); (try simp only [Act.put, List.setIfInBounds_toArray, List.set_cons_zero, List.set_cons_succ]); refine Held.one (i := 12) (by (simp only [List.getElem?_toArray, List.getElem?_cons_succ, List.getElem?_cons_zero]); exact rfl) (by kernel_rfl) (fun K hK => ?_); go_simp; refine hK.out _ _ (by (try dsimp only); (first | (go_keep; done) | (and_intros <;> go_simp))) (fun hHeld => ?_); clear hK K; (try simp only [Act.put, List.setIfInBounds_toArray, List.set_cons_zero, List.set_cons_succ]); refine Held.one (i := 13) (by (simp only [List.getElem?_toArray, List.getElem?_cons_succ, List.getElem?_cons_zero]); exact rfl) (by kernel_rfl) (fun K hK => ?_); (refine step_push (α := Bool) _ (by rfl) (.tmp 97) (.tmp 108) 22 (by rfl) (w1.heap.size + 2) 4 (.bool false) 1 Try.underlying22 infoBoolS rfl A3 i c3 _ [] (by rfl) (HAW.out.one.drew.alloc _) W.heap.size 1 (by rfl) (accR T x) [.bool (accR T x)] [] ⟨rfl, rfl⟩ (fun j u hu => new_cells (w := W.drew) rfl j u hu) (fun u hu => by (simp at hu; subst hu; rfl)) ⟨List.nodup_nil, fun g hg => by simp at hg⟩ (fun g hg => by simp at hg) (by omega) (by omega) (by first | omega | (simp only [sz_alloc, sz_set, sz_drew, sz_drewN]; omega) | (simp only [sz_alloc, sz_set, sz_drew, sz_drewN] at *; omega)) ?_; intro A5 c5 w5 hacc hgr hnew; have hB5 := Lib.hid (Acc.box (HAW.out.one.drew.alloc (.cells #[.bool (accR T x)] 4)) hgr (alloc_block (show W.drew.heap[w1.heap.size + 1]? = _ from HBW.out) hgo) hgl); have qe0 := cell_of_row w5 _ 2 _ _ (0, 0) hB5.out; have qe1 := (hgr.cell_far ⟨b, 2, none⟩ (by first | omega | (simp only [sz_alloc, sz_set, sz_drew, sz_drewN]; omega) | (simp only [sz_alloc, sz_set, sz_drew, sz_drewN] at *; omega)) (HAW.out.one.far (by show b < _; omega))).trans (show (World.alloc _ _).cell? _ = some (.slice (some ⟨b3, o3, none⟩) n c1) by go_simp); have qe2 : w5.cell? ⟨b4, o4 + i, none⟩ = some (.int .i64 (x : Int)) := (World.cell?_of_block (a := ⟨b4, o4 + i, none⟩) (grown_block hgr (k := b4) (by first | omega | (simp only [sz_alloc, sz_set, sz_drew, sz_drewN]; omega) | (simp only [sz_alloc, sz_set, sz_drew, sz_drewN] at *; omega)) H43.out)).trans (show (World.alloc _ _).cell? _ = some (.int .i64 (x : Int)) by go_simp); have qe3 := (hgr.cell_far ⟨b3, o3 + x, none⟩ (by first | omega | (simp only [sz_alloc, sz_set, sz_drew, sz_drewN]; omega) | (simp only [sz_alloc, sz_set, sz_drew, sz_drewN] at *; omega)) (HAW.out.one.far (by show b3 < _; omega))).trans (show (World.alloc _ _).cell? _ = some (.bool (accR T x)) by go_simp); have HA5 := Lib.hid ((HAW.out.drew.alloc (.cells #[.bool (accR T x)] 4)).grow1 hacc hgr hnew); have HM5 := Lib.hid ((HMW.out.drew.alloc (.cells #[.bool (accR T x)] 4)).other hgr HDM.out.1.symm (fun _ _ hm => by simp at hm)); have HD5 : Hid (Dif M2 A5) := Lib.hid (Dif.grow HDM.out.1.symm (fun a ha => ((HMW.out.drew.alloc (.cells #[.bool (accR T x)] 4)).lt a ha).2) hnew).symm; have HS5 : Since w1 w5 := ⟨Acc.since (HAW.out.one.drew.alloc (.cells #[.bool (accR T x)] 4)) hgr (HSW.out.drew.alloc (by first | omega | (simp only [sz_alloc, sz_set, sz_drew, sz_drewN]; omega) | (simp only [sz_alloc, sz_set, sz_drew, sz_drewN] at *; omega)) _) (by omega) (by first | omega | (simp only [sz_alloc, sz_set, sz_drew, sz_drewN]; omega) | (simp only [sz_alloc, sz_set, sz_drew, sz_drewN] at *; omega))⟩; have hz5 : W.heap.size ≤ w5.heap.size := Nat.le_trans (by first | omega | (simp only [sz_alloc, sz_set, sz_drew, sz_drewN]; omega) | (simp only [sz_alloc, sz_set, sz_drew, sz_drewN] at *; omega)) hgr.size; have f0 : w5.frozen? ⟨w1.heap.size + 1, 2, none⟩ = false := blk_free hB5.out; clear hacc hgr hnew); refine hK.out _ _ (by (try dsimp only); (first | (go_keep; done) | (and_intros <;> go_simp))) (fun hHeld => ?_); clear hK K; (try simp only [Act.put, List.setIfInBounds_toArray, List.set_cons_zero, List.set_cons_succ]); refine Held.last (i := 14) (by (simp only [List.getElem?_toArray, List.getElem?_cons_succ, List.getElem?_cons_zero]); exact rfl) (by decide) (by kernel_rfl) (fun K hK => ?_); go_simp; refine hK.out _ _ ?_; clear hK K; (try simp only [Act.put, List.setIfInBounds_toArray, List.set_cons_zero, List.set_cons_succ]); refine Held.last (i := 15) (by (simp only [List.getElem?_toArray, List.getElem?_cons_succ, List.getElem?_cons_zero]); exact rfl) (by decide) (by kernel_rfl) (fun K hK => ?_); go_simp; refine hK.out _ _ ?_; clear hK K; (try simp only [Act.put, List.setIfInBounds_toArray, List.set_cons_zero, List.set_cons_succ]); refine Held.done (by kernel_rfl) ?_ _
          go_wp2
          go_roundw
          case rel =>
            refine ⟨ms', M2, m2, i + 1, A5, c5, D4, d4, accs ++ [accR T x], rows ++ [r], bs ++ br, by omega, by rw [hM2], by go_num, Lib.hid ⟨H2.out.1, ?_⟩, Lib.hid ?_, Lib.hid (blk_set hB5.out _), Lib.hid (HM5.out.setCell (fun a ha => HDM.out.2.2.2.1 a ha) (by simp) _), Lib.hid (HA5.out.setCell (by simp only; omega) _), Lib.hid ⟨HD5.out, HD4.out.1, HD4.out.2, HDM.out.2.2.2.1⟩, (by first | omega | (simp only [sz_alloc, sz_set, sz_drew, sz_drewN]; omega) | (simp only [sz_alloc, sz_set, sz_drew, sz_drewN] at *; omega)), ⟨HS5.out.setCell (Nat.le_add_right _ _) _⟩⟩
            · obtain ⟨ys, hys⟩ := H2.out.2.1
              rw [hys, List.getElem?_append_left (by omega)]
              exact HM.out.2
            · obtain ⟨ys, hys⟩ := H2.out.2.1
              have h3 := H2.out.2.2
              rw [hys] at h3 ⊢
              exact HRW.out.next hlt (by rw [List.getElem?_append_left hlt]; exact HX.out) h3
          case measure => (simp [intOf]; try omega)
    · obtain rfl : i = ms.length := by omega
      have hwx : w.heap.size < wo.heap.size := by omega
      have k0 := cell_of_row wo (w1.heap.size + 1) 0 _ _ (0, 0) HB.out
      have k1 := cell_of_row wo (w1.heap.size + 1) 1 _ _ (0, 0) HB.out
      have k2 := cell_of_row wo (w1.heap.size + 1) 2 _ _ (0, 0) HB.out
      have k3 := cell_of_row wo (w1.heap.size + 1) 3 _ _ (0, 0) HB.out
      have z0 : wo.cell? ⟨w.heap.size, 0, none⟩ = some (.int .i64 0) := (hs.out.cell (p := ⟨w.heap.size, 0, none⟩) hlw1k0).trans (by go_simp)
      have z1 : wo.cell? ⟨w.heap.size, 1, none⟩ = some (.int .i64 0) := (hs.out.cell (p := ⟨w.heap.size, 1, none⟩) hlw1k0).trans (by go_simp)
      have z2 : wo.cell? ⟨w.heap.size, 2, none⟩ = some (.slice none 0 0) := (hs.out.cell (p := ⟨w.heap.size, 2, none⟩) hlw1k0).trans (by go_simp)
      have z3 : wo.cell? ⟨w.heap.size, 3, none⟩ = some (.slice none 0 0) := (hs.out.cell (p := ⟨w.heap.size, 3, none⟩) hlw1k0).trans (by go_simp)
      have zf : ∀ o, wo.frozen? ⟨w.heap.size, o, none⟩ = (w.alloc (.cells #[.int .i64 0, .int .i64 0, .slice none 0 0, .slice none 0 0] 29)).frozen? ⟨w.heap.size, o, none⟩ := fun o => (hs.out.frozen (p := ⟨w.heap.size, o, none⟩) hlw1k0).trans (hfw1k0 o)
      go_wp2
      obtain ⟨W, hW⟩ : ∃ W, W = (((wo.setCell ⟨w.heap.size, 0, none⟩ (.int .i64 (L : Int))).setCell ⟨w.heap.size, 1, none⟩ (.int .i64 0)).setCell ⟨w.heap.size, 2, none⟩ (.slice A3 ms.length c3)).setCell ⟨w.heap.size, 3, none⟩ (.slice A4 ms.length c4) := ⟨_, rfl⟩
      have p0 : W.cell? ⟨w.heap.size, 0, none⟩ = some (.int .i64 (L : Int)) := by rw [hW]; go_simp
      have p1 : W.cell? ⟨w.heap.size, 1, none⟩ = some (.int .i64 0) := by rw [hW]; go_simp
      have p2 : W.cell? ⟨w.heap.size, 2, none⟩ = some (.slice A3 ms.length c3) := by rw [hW]; go_simp
      have p3 : W.cell? ⟨w.heap.size, 3, none⟩ = some (.slice A4 ms.length c4) := by rw [hW]; go_simp
      have HAW : Hid (AccN W (w1.heap.size + 2) 4 33 A3 ms.length c3 accs A4 ms.length c4 rows bs) := Lib.hid (by rw [hW]; exact (((HA.out.setCell (by simp only; omega) _).setCell (by simp only; omega) _).setCell (by simp only; omega) _).setCell (by simp only; omega) _)
      have HBW : Since w W := ⟨by rw [hW]; exact ((((HBw1.out.trans (hs.out.mono HBw1.out.size)).setCell (Nat.le_refl _) _).setCell (Nat.le_refl _) _).setCell (Nat.le_refl _) _).setCell (Nat.le_refl _) _⟩
      rw [← hW]
      have HAL : Hid (Alike T ⟨T.letters, 0, accs, rows⟩) := Lib.hid (by
        refine alike_of HO.out (cls := cls) (ms := ms) ?_ ?_ ?_ ?_
        · rw [HN.out]; exact HHC.out
        · rw [HN.out]; exact HM.out.1
        · rw [HST.out]; exact HM.out.2
        · rw [HL.out]; exact HRW.out)
      refine bodyPost_ret (v := .agg #[.int .i64 (L : Int), .int .i64 0, .slice A3 ms.length c3, .slice A4 ms.length c4]) (by simp [results, Try.results20, go_sem, p0, p1, p2, p3]) rfl ⟨_, ⟨T.letters, 0, accs, rows⟩, rfl, ⟨A3, c3, A4, c4, ?_, HAW.out.one.rd, HAW.out.two.rd⟩, HAL.out, HBW.out⟩
      simp only
      rw [HLL.out, HRW.out.alen, HRW.out.len]
end Go.Proofs.Ytpknkaidmefenaa
