/-
  Contract of the program's search. Conditions: those in the statement.
-/
import Derived.Test.YtpknkaidmefenaaTxtLaw2
import Derived.Test.YtpknkaidmefenaaFstI
import Derived.Test.YtpknkaidmefenaaTail2
import Derived.Deep.DeepCutAuto
import Derived.BigQuiet
set_option linter.unusedVariables false
set_option linter.unusedSimpArgs false
set_option maxRecDepth 100000
set_option maxHeartbeats 1000000
namespace Go.Proofs.Ytpknkaidmefenaa
open Go.RowKit

theorem infoFd : (Try.prog.info? 109).map (fun i => (i.zero, i.size, i.bytes)) = some (some (.agg #[.int .i64 0, .int .i64 0, .int .i64 0, .int .i64 0]), 4, 32) := by kernel_rfl
theorem infoBy : (Try.prog.info? 5).map (fun i => (i.zero, i.size, i.bytes)) = some (some (.int .u8 0), 1, 1) := by kernel_rfl
theorem w97b (a : Nat) (ha : a < 3) : IntKind.u8.wrap (97 + (a : Int)) = 97 + (a : Int) := by rw [IntKind.wrap_u8']; omega
theorem wu8 (a : Nat) (ha : a < 3) : IntKind.u8.wrap (a : Int) = (a : Int) := by rw [IntKind.wrap_u8']; omega
def txtV : Option (List Nat) → Value
  | some u => .tuple #[.string (wstr u), .bool true]
  | none => .tuple #[.string ⟨#[]⟩, .bool false]
def RetTxt (T U : Rr) (w : World) (e : Ending) (w' : World) : Prop := ∃ o, FirstOf T U o ∧ (∀ u, o = some u → u.length ≤ 90000) ∧ e = .returned (txtV o) ∧ Below w.heap.size w w'

set_option maxHeartbeats 8000000 in
theorem firstText_impl (b b' : Nat) (T U : Rr) (w : World) (h : AtRr w b T) (h' : AtRr w b' U) (OK : T.Ok) (OK' : U.Ok) (hlet : U.letters = T.letters) :
    Calls Try.prog 57 #[.int .i64 T.letters, .agg #[.int .i64 T.start, .int .i64 U.start], .func (.func 26) #[] #[.pointer (some ⟨b, 0, none⟩), .pointer (some ⟨b', 0, none⟩)], .func (.func 27) #[] #[.pointer (some ⟨b, 0, none⟩), .pointer (some ⟨b', 0, none⟩)]] w (RetTxt T U w) := by
  have HO := Lib.hid OK
  have HO' := Lib.hid OK'
  have HLE := Lib.hid hlet
  obtain ⟨st, hst⟩ := Int.eq_ofNat_of_zero_le OK.s0
  obtain ⟨st', hst'⟩ := Int.eq_ofNat_of_zero_le OK'.s0
  obtain ⟨n, hn⟩ : ∃ n, T.accept.length = n := ⟨_, rfl⟩
  obtain ⟨m, hm⟩ : ∃ m, U.accept.length = m := ⟨_, rfl⟩
  obtain ⟨L, hL⟩ : ∃ L : Nat, T.letters.toNat = L := ⟨_, rfl⟩
  have hL0 := OK.l1
  have hL1 := OK.l3
  have n300 := OK.n300
  have m300 := OK'.n300
  have hs1 := OK.s1
  have hs1' := OK'.s1
  have hLl : T.letters = (L : Int) := by omega
  rw [hn] at n300 hs1
  rw [hm] at m300 hs1'
  rw [hst] at hs1
  rw [hst'] at hs1'
  rw [hst, hst', hLl]
  have hL3 : L ≤ 3 := by omega
  have hL1 : 1 ≤ L := by omega
  have hstn : st < n := by omega
  have hstm : st' < m := by omega
  have HN := Lib.hid hn
  have HM := Lib.hid hm
  have HL := Lib.hid hL
  have HST : Hid (st2 T U = (st, st')) := Lib.hid (by unfold st2; rw [hst, hst']; rfl)
  have HA := Lib.hid h
  have HA' := Lib.hid h'
  clear OK OK' hlet hst hst' hn hm hL hLl hL0 hs1 hs1' h h'
  go_enter Try.func57, Try.ntmps57
  go_wp2
  go_cut [10, 11] (fun s10 s11 wx => ∃ gl gm : Nat, s10 = .slice (some ⟨gl, 0, none⟩) 1 1 ∧ s11 = .map (some gm) ∧ Hid (wx.heap[gl]? = some (.cells #[.int .i64 (st : Int), .int .i64 (st' : Int), .int .i64 (-1), .int .i64 0] 109 (0, 0)) ∧ SetAt wx gm [((st : Int), (st' : Int))] ∧ gl ≠ gm ∧ w.heap.size < gl ∧ w.heap.size < gm) ∧ Since w wx)
  case first =>
    have hmm := fun W : World => run_makeMap (P := Try.prog) 111 W
    refine Held.begin (fun w' => w'.cell? ⟨w.heap.size, 0, none⟩ = some (.int .i64 (st : Int)) ∧ w'.cell? ⟨w.heap.size, 1, none⟩ = some (.int .i64 (st' : Int))) 9 (by kernel_rfl) (by (try dsimp only); (first | assumption | (go_keep; done) | (and_intros <;> go_simp))) (fun hHeld => ?_)
    (first | (refine Held.take3 (i := 0) (v := undef) (by (simp only [List.getElem?_toArray, List.getElem?_cons_succ, List.getElem?_cons_zero]); exact rfl) (by decide) (by kernel_rfl) (by kernel_rfl) (by kernel_rfl) (by kernel_rfl) (by exact fun _ _ _ h => h) (by exact Or.inr ⟨by rfl, rfl⟩) (by assumption) ?_) | (refine Held.take3 (i := 0) (v := ?_) (by (simp only [List.getElem?_toArray, List.getElem?_cons_succ, List.getElem?_cons_zero]); exact rfl) (by decide) (by kernel_rfl) (by kernel_rfl) (by kernel_rfl) (by kernel_rfl) (by exact fun _ _ _ h => h) (by refine Or.inl ⟨by rfl, ?_⟩; intro wS hSw; (try dsimp only at hSw); go_simp; (try with_reducible rfl)) (by assumption) ?_)); (try simp only [Act.put, List.setIfInBounds_toArray, List.set_cons_zero, List.set_cons_succ]); (first | (refine Held.take3 (i := 4) (v := undef) (by (simp only [List.getElem?_toArray, List.getElem?_cons_succ, List.getElem?_cons_zero]); exact rfl) (by decide) (by kernel_rfl) (by kernel_rfl) (by kernel_rfl) (by kernel_rfl) (by exact fun _ _ _ h => h) (by exact Or.inr ⟨by rfl, rfl⟩) (by assumption) ?_) | (refine Held.take3 (i := 4) (v := ?_) (by (simp only [List.getElem?_toArray, List.getElem?_cons_succ, List.getElem?_cons_zero]); exact rfl) (by decide) (by kernel_rfl) (by kernel_rfl) (by kernel_rfl) (by kernel_rfl) (by exact fun _ _ _ h => h) (by refine Or.inl ⟨by rfl, ?_⟩; intro wS hSw; (try dsimp only at hSw); go_simp; (try with_reducible rfl)) (by assumption) ?_)); (try simp only [Act.put, List.setIfInBounds_toArray, List.set_cons_zero, List.set_cons_succ]); (first | (refine Held.take3 (i := 1) (v := undef) (by (simp only [List.getElem?_toArray, List.getElem?_cons_succ, List.getElem?_cons_zero]); exact rfl) (by decide) (by kernel_rfl) (by kernel_rfl) (by kernel_rfl) (by kernel_rfl) (by exact fun _ _ _ h => h) (by exact Or.inr ⟨by rfl, rfl⟩) (by assumption) ?_) | (refine Held.take3 (i := 1) (v := ?_) (by (simp only [List.getElem?_toArray, List.getElem?_cons_succ, List.getElem?_cons_zero]); exact rfl) (by decide) (by kernel_rfl) (by kernel_rfl) (by kernel_rfl) (by kernel_rfl) (by exact fun _ _ _ h => h) (by refine Or.inl ⟨by rfl, ?_⟩; intro wS hSw; (try dsimp only at hSw); go_simp; (try with_reducible rfl)) (by assumption) ?_)); (try simp only [Act.put, List.setIfInBounds_toArray, List.set_cons_zero, List.set_cons_succ])
    refine Held.two (i := 2) (j := 3) (by (simp only [List.getElem?_toArray, List.getElem?_cons_succ, List.getElem?_cons_zero]); exact rfl) (by (simp only [List.getElem?_toArray, List.getElem?_cons_succ, List.getElem?_cons_zero]); exact rfl) (by kernel_rfl) (fun K hK => ?_) (fun K hK => ?_)
    · go_simp
      refine hK.out _ _ (by (try dsimp only); (first | assumption | (go_keep; done) | (and_intros <;> go_simp))) (fun hHeld => ?_)
      clear hK K
      (try simp only [Act.put, List.setIfInBounds_toArray, List.set_cons_zero, List.set_cons_succ])
      (first | (refine Held.take3 (i := 7) (v := undef) (by (simp only [List.getElem?_toArray, List.getElem?_cons_succ, List.getElem?_cons_zero]); exact rfl) (by decide) (by kernel_rfl) (by kernel_rfl) (by kernel_rfl) (by kernel_rfl) (by exact fun _ _ _ h => h) (by exact Or.inr ⟨by rfl, rfl⟩) (by assumption) ?_) | (refine Held.take3 (i := 7) (v := ?_) (by (simp only [List.getElem?_toArray, List.getElem?_cons_succ, List.getElem?_cons_zero]); exact rfl) (by decide) (by kernel_rfl) (by kernel_rfl) (by kernel_rfl) (by kernel_rfl) (by exact fun _ _ _ h => h) (by refine Or.inl ⟨by rfl, ?_⟩; intro wS hSw; (try dsimp only at hSw); go_simp; (try with_reducible rfl)) (by assumption) ?_)); (try simp only [Act.put, List.setIfInBounds_toArray, List.set_cons_zero, List.set_cons_succ]); refine Held.one (i := 3) (by (simp only [List.getElem?_toArray, List.getElem?_cons_succ, List.getElem?_cons_zero]); exact rfl) (by kernel_rfl) (fun K hK => ?_); go_simp; refine hK.out _ _ (by (try dsimp only); (first | assumption | (go_keep; done) | (and_intros <;> go_simp))) (fun hHeld => ?_); clear hK K; (try simp only [Act.put, List.setIfInBounds_toArray, List.set_cons_zero, List.set_cons_succ])
      obtain ⟨X, hX⟩ : ∃ X, X = (((w.alloc (.cells #[.int .i64 (st : Int), .int .i64 (st' : Int)] 57)).alloc (.cells #[.int .i64 (st : Int), .int .i64 (st' : Int), .int .i64 (-1), .int .i64 0] 109)).alloc (.map #[] 0)).drew := ⟨_, rfl⟩
      have hsX : SetAt X (w.heap.size + 1 + 1) [] := by rw [hX]; exact SetAt.empty_ (by simp)
      have hzX : X.heap.size = w.heap.size + 3 := by rw [hX]; simp [sz_drew]
      have hbX : Below w.heap.size w X := by rw [hX]; exact (by repeat (first | exact Below.refl _ _ | refine Below.alloc ?_ (by first | omega | (simp only [sz_alloc, sz_set, sz_drew, sz_drewN]; omega) | (simp only [sz_alloc, sz_set, sz_drew, sz_drewN] at *; omega)) _ | refine Below.setCell ?_ (by first | omega | (simp only [sz_alloc, sz_set, sz_drew, sz_drewN]; omega) | (simp only [sz_alloc, sz_set, sz_drew, sz_drewN] at *; omega)) _ | refine Below.drew ?_ | refine below_drewN_ ?_ _))
      have x0 : X.cell? ⟨w.heap.size, 0, none⟩ = some (.int .i64 (st : Int)) := by rw [hX]; go_simp
      have x1 : X.cell? ⟨w.heap.size, 1, none⟩ = some (.int .i64 (st' : Int)) := by rw [hX]; go_simp
      have hlX : X.heap[w.heap.size + 1]? = some (.cells #[.int .i64 (st : Int), .int .i64 (st' : Int), .int .i64 (-1), .int .i64 0] 109 (0, 0)) := by rw [hX]; exact alloc_block (new_block (by simp)) (by simp)
      rw [← hX]
      clear hX hHeld
      obtain ⟨wM, hrun, hset, honly⟩ := hsX.first (x := st) (y := st') (by omega) (by omega)
      have y0 : wM.cell? ⟨w.heap.size, 0, none⟩ = some (.int .i64 (st : Int)) := (World.cell?_of_block (a := ⟨w.heap.size, 0, none⟩) (honly.block w.heap.size (by omega) (by simp <;> omega))).trans x0
      have y1 : wM.cell? ⟨w.heap.size, 1, none⟩ = some (.int .i64 (st' : Int)) := (World.cell?_of_block (a := ⟨w.heap.size, 1, none⟩) (honly.block w.heap.size (by omega) (by simp <;> omega))).trans x1
      have hbM : Below w.heap.size w wM := hbX.trans (honly.below (fun g hg => by (obtain rfl := List.mem_singleton.1 hg); omega) (by omega))
      have hzM := honly.size
      have hlM : wM.heap[w.heap.size + 1]? = some (.cells #[.int .i64 (st : Int), .int .i64 (st' : Int), .int .i64 (-1), .int .i64 0] 109 (0, 0)) := (honly.block _ (by omega) (by simp)).trans hlX
      have hHeld : (fun w' => w'.cell? ⟨w.heap.size, 0, none⟩ = some (.int .i64 (st : Int)) ∧ w'.cell? ⟨w.heap.size, 1, none⟩ = some (.int .i64 (st' : Int))) X := ⟨x0, x1⟩
      refine Held.one (i := 5) (by (simp only [List.getElem?_toArray, List.getElem?_cons_succ, List.getElem?_cons_zero]); exact rfl) (by kernel_rfl) (fun K hK => ?_); go_simp; refine hK.out _ _ (by (try dsimp only); (first | assumption | (go_keep; done) | (and_intros <;> go_simp))) (fun hHeld => ?_); clear hK K; (try simp only [Act.put, List.setIfInBounds_toArray, List.set_cons_zero, List.set_cons_succ]); (first | (refine Held.take3 (i := 6) (v := undef) (by (simp only [List.getElem?_toArray, List.getElem?_cons_succ, List.getElem?_cons_zero]); exact rfl) (by decide) (by kernel_rfl) (by kernel_rfl) (by kernel_rfl) (by kernel_rfl) (by exact fun _ _ _ h => h) (by exact Or.inr ⟨by rfl, rfl⟩) (by assumption) ?_) | (refine Held.take3 (i := 6) (v := ?_) (by (simp only [List.getElem?_toArray, List.getElem?_cons_succ, List.getElem?_cons_zero]); exact rfl) (by decide) (by kernel_rfl) (by kernel_rfl) (by kernel_rfl) (by kernel_rfl) (by exact fun _ _ _ h => h) (by refine Or.inl ⟨by rfl, ?_⟩; intro wS hSw; (try dsimp only at hSw); go_simp; (try with_reducible rfl)) (by assumption) ?_)); (try simp only [Act.put, List.setIfInBounds_toArray, List.set_cons_zero, List.set_cons_succ]); refine Held.one (i := 8) (by (simp only [List.getElem?_toArray, List.getElem?_cons_succ, List.getElem?_cons_zero]); exact rfl) (by kernel_rfl) (fun K hK => ?_); go_simp; refine hK.out _ _ (by (try dsimp only); (first | assumption | (go_keep; done) | (and_intros <;> go_simp))) (fun hHeld => ?_); clear hK K; (try simp only [Act.put, List.setIfInBounds_toArray, List.set_cons_zero, List.set_cons_succ])
      refine Held.done (by kernel_rfl) ?_ _
      go_wp2_with fail
      go_meet
      exact ⟨w.heap.size + 1, w.heap.size + 1 + 1, rfl, rfl, Lib.hid ⟨hlM, hset, by omega, by omega, by omega⟩, ⟨hbM⟩⟩
    · go_simp
      refine hK.out _ _ (by (try dsimp only); (first | assumption | (go_keep; done) | (and_intros <;> go_simp))) (fun hHeld => ?_)
      clear hK K
      (try simp only [Act.put, List.setIfInBounds_toArray, List.set_cons_zero, List.set_cons_succ])
      refine Held.two (i := 2) (j := 5) (by (simp only [List.getElem?_toArray, List.getElem?_cons_succ, List.getElem?_cons_zero]); exact rfl) (by (simp only [List.getElem?_toArray, List.getElem?_cons_succ, List.getElem?_cons_zero]); exact rfl) (by kernel_rfl) (fun K hK => ?_) (fun K hK => ?_)
      · go_simp
        refine hK.out _ _ (by (try dsimp only); (first | assumption | (go_keep; done) | (and_intros <;> go_simp))) (fun hHeld => ?_)
        clear hK K
        (try simp only [Act.put, List.setIfInBounds_toArray, List.set_cons_zero, List.set_cons_succ])
        (first | (refine Held.take3 (i := 7) (v := undef) (by (simp only [List.getElem?_toArray, List.getElem?_cons_succ, List.getElem?_cons_zero]); exact rfl) (by decide) (by kernel_rfl) (by kernel_rfl) (by kernel_rfl) (by kernel_rfl) (by exact fun _ _ _ h => h) (by exact Or.inr ⟨by rfl, rfl⟩) (by assumption) ?_) | (refine Held.take3 (i := 7) (v := ?_) (by (simp only [List.getElem?_toArray, List.getElem?_cons_succ, List.getElem?_cons_zero]); exact rfl) (by decide) (by kernel_rfl) (by kernel_rfl) (by kernel_rfl) (by kernel_rfl) (by exact fun _ _ _ h => h) (by refine Or.inl ⟨by rfl, ?_⟩; intro wS hSw; (try dsimp only at hSw); go_simp; (try with_reducible rfl)) (by assumption) ?_)); (try simp only [Act.put, List.setIfInBounds_toArray, List.set_cons_zero, List.set_cons_succ])
        obtain ⟨X, hX⟩ : ∃ X, X = (((w.alloc (.cells #[.int .i64 (st : Int), .int .i64 (st' : Int)] 57)).alloc (.map #[] 0)).alloc (.cells #[.int .i64 (st : Int), .int .i64 (st' : Int), .int .i64 (-1), .int .i64 0] 109)).drew := ⟨_, rfl⟩
        have hsX : SetAt X (w.heap.size + 1) [] := by rw [hX]; exact (SetAt.empty_ (X := w.alloc (.cells #[.int .i64 (st : Int), .int .i64 (st' : Int)] 57)) (by simp)).keep (alloc_block rfl (by simp))
        have hzX : X.heap.size = w.heap.size + 3 := by rw [hX]; simp [sz_drew]
        have hbX : Below w.heap.size w X := by rw [hX]; exact (by repeat (first | exact Below.refl _ _ | refine Below.alloc ?_ (by first | omega | (simp only [sz_alloc, sz_set, sz_drew, sz_drewN]; omega) | (simp only [sz_alloc, sz_set, sz_drew, sz_drewN] at *; omega)) _ | refine Below.setCell ?_ (by first | omega | (simp only [sz_alloc, sz_set, sz_drew, sz_drewN]; omega) | (simp only [sz_alloc, sz_set, sz_drew, sz_drewN] at *; omega)) _ | refine Below.drew ?_ | refine below_drewN_ ?_ _))
        have x0 : X.cell? ⟨w.heap.size, 0, none⟩ = some (.int .i64 (st : Int)) := by rw [hX]; go_simp
        have x1 : X.cell? ⟨w.heap.size, 1, none⟩ = some (.int .i64 (st' : Int)) := by rw [hX]; go_simp
        have hlX : X.heap[w.heap.size + 1 + 1]? = some (.cells #[.int .i64 (st : Int), .int .i64 (st' : Int), .int .i64 (-1), .int .i64 0] 109 (0, 0)) := by rw [hX]; exact new_block (by simp)
        rw [← hX]
        clear hX hHeld
        obtain ⟨wM, hrun, hset, honly⟩ := hsX.first (x := st) (y := st') (by omega) (by omega)
        have y0 : wM.cell? ⟨w.heap.size, 0, none⟩ = some (.int .i64 (st : Int)) := (World.cell?_of_block (a := ⟨w.heap.size, 0, none⟩) (honly.block w.heap.size (by omega) (by simp <;> omega))).trans x0
        have y1 : wM.cell? ⟨w.heap.size, 1, none⟩ = some (.int .i64 (st' : Int)) := (World.cell?_of_block (a := ⟨w.heap.size, 1, none⟩) (honly.block w.heap.size (by omega) (by simp <;> omega))).trans x1
        have hbM : Below w.heap.size w wM := hbX.trans (honly.below (fun g hg => by (obtain rfl := List.mem_singleton.1 hg); omega) (by omega))
        have hzM := honly.size
        have hlM : wM.heap[w.heap.size + 1 + 1]? = some (.cells #[.int .i64 (st : Int), .int .i64 (st' : Int), .int .i64 (-1), .int .i64 0] 109 (0, 0)) := (honly.block _ (by omega) (by simp)).trans hlX
        have hHeld : (fun w' => w'.cell? ⟨w.heap.size, 0, none⟩ = some (.int .i64 (st : Int)) ∧ w'.cell? ⟨w.heap.size, 1, none⟩ = some (.int .i64 (st' : Int))) X := ⟨x0, x1⟩
        refine Held.one (i := 5) (by (simp only [List.getElem?_toArray, List.getElem?_cons_succ, List.getElem?_cons_zero]); exact rfl) (by kernel_rfl) (fun K hK => ?_); go_simp; refine hK.out _ _ (by (try dsimp only); (first | assumption | (go_keep; done) | (and_intros <;> go_simp))) (fun hHeld => ?_); clear hK K; (try simp only [Act.put, List.setIfInBounds_toArray, List.set_cons_zero, List.set_cons_succ]); (first | (refine Held.take3 (i := 6) (v := undef) (by (simp only [List.getElem?_toArray, List.getElem?_cons_succ, List.getElem?_cons_zero]); exact rfl) (by decide) (by kernel_rfl) (by kernel_rfl) (by kernel_rfl) (by kernel_rfl) (by exact fun _ _ _ h => h) (by exact Or.inr ⟨by rfl, rfl⟩) (by assumption) ?_) | (refine Held.take3 (i := 6) (v := ?_) (by (simp only [List.getElem?_toArray, List.getElem?_cons_succ, List.getElem?_cons_zero]); exact rfl) (by decide) (by kernel_rfl) (by kernel_rfl) (by kernel_rfl) (by kernel_rfl) (by exact fun _ _ _ h => h) (by refine Or.inl ⟨by rfl, ?_⟩; intro wS hSw; (try dsimp only at hSw); go_simp; (try with_reducible rfl)) (by assumption) ?_)); (try simp only [Act.put, List.setIfInBounds_toArray, List.set_cons_zero, List.set_cons_succ]); refine Held.one (i := 8) (by (simp only [List.getElem?_toArray, List.getElem?_cons_succ, List.getElem?_cons_zero]); exact rfl) (by kernel_rfl) (fun K hK => ?_); go_simp; refine hK.out _ _ (by (try dsimp only); (first | assumption | (go_keep; done) | (and_intros <;> go_simp))) (fun hHeld => ?_); clear hK K; (try simp only [Act.put, List.setIfInBounds_toArray, List.set_cons_zero, List.set_cons_succ])
        refine Held.done (by kernel_rfl) ?_ _
        go_wp2_with fail
        go_meet
        exact ⟨w.heap.size + 1 + 1, w.heap.size + 1, rfl, rfl, Lib.hid ⟨hlM, hset, by omega, by omega, by omega⟩, ⟨hbM⟩⟩
      · 
        obtain ⟨X, hX⟩ : ∃ X, X = ((w.alloc (.cells #[.int .i64 (st : Int), .int .i64 (st' : Int)] 57)).alloc (.map #[] 0)).drew := ⟨_, rfl⟩
        have hsX : SetAt X (w.heap.size + 1) [] := by rw [hX]; exact SetAt.empty_ (by simp)
        have hzX : X.heap.size = w.heap.size + 2 := by rw [hX]; simp [sz_drew]
        have hbX : Below w.heap.size w X := by rw [hX]; exact (by repeat (first | exact Below.refl _ _ | refine Below.alloc ?_ (by first | omega | (simp only [sz_alloc, sz_set, sz_drew, sz_drewN]; omega) | (simp only [sz_alloc, sz_set, sz_drew, sz_drewN] at *; omega)) _ | refine Below.setCell ?_ (by first | omega | (simp only [sz_alloc, sz_set, sz_drew, sz_drewN]; omega) | (simp only [sz_alloc, sz_set, sz_drew, sz_drewN] at *; omega)) _ | refine Below.drew ?_ | refine below_drewN_ ?_ _))
        have x0 : X.cell? ⟨w.heap.size, 0, none⟩ = some (.int .i64 (st : Int)) := by rw [hX]; go_simp
        have x1 : X.cell? ⟨w.heap.size, 1, none⟩ = some (.int .i64 (st' : Int)) := by rw [hX]; go_simp
        rw [← hX]
        clear hX hHeld
        obtain ⟨wM, hrun, hset, honly⟩ := hsX.first (x := st) (y := st') (by omega) (by omega)
        have y0 : wM.cell? ⟨w.heap.size, 0, none⟩ = some (.int .i64 (st : Int)) := (World.cell?_of_block (a := ⟨w.heap.size, 0, none⟩) (honly.block w.heap.size (by omega) (by simp <;> omega))).trans x0
        have y1 : wM.cell? ⟨w.heap.size, 1, none⟩ = some (.int .i64 (st' : Int)) := (World.cell?_of_block (a := ⟨w.heap.size, 1, none⟩) (honly.block w.heap.size (by omega) (by simp <;> omega))).trans x1
        have hbM : Below w.heap.size w wM := hbX.trans (honly.below (fun g hg => by (obtain rfl := List.mem_singleton.1 hg); omega) (by omega))
        have hzM := honly.size
        go_simp
        refine hK.out _ _ (by (try dsimp only); (first | assumption | (go_keep; done) | (and_intros <;> go_simp))) (fun hHeld => ?_)
        clear hK K
        (try simp only [Act.put, List.setIfInBounds_toArray, List.set_cons_zero, List.set_cons_succ])
        (first | (refine Held.take3 (i := 6) (v := undef) (by (simp only [List.getElem?_toArray, List.getElem?_cons_succ, List.getElem?_cons_zero]); exact rfl) (by decide) (by kernel_rfl) (by kernel_rfl) (by kernel_rfl) (by kernel_rfl) (by exact fun _ _ _ h => h) (by exact Or.inr ⟨by rfl, rfl⟩) (by assumption) ?_) | (refine Held.take3 (i := 6) (v := ?_) (by (simp only [List.getElem?_toArray, List.getElem?_cons_succ, List.getElem?_cons_zero]); exact rfl) (by decide) (by kernel_rfl) (by kernel_rfl) (by kernel_rfl) (by kernel_rfl) (by exact fun _ _ _ h => h) (by refine Or.inl ⟨by rfl, ?_⟩; intro wS hSw; (try dsimp only at hSw); go_simp; (try with_reducible rfl)) (by assumption) ?_)); (try simp only [Act.put, List.setIfInBounds_toArray, List.set_cons_zero, List.set_cons_succ]); refine Held.one (i := 2) (by (simp only [List.getElem?_toArray, List.getElem?_cons_succ, List.getElem?_cons_zero]); exact rfl) (by kernel_rfl) (fun K hK => ?_); go_simp; refine hK.out _ _ (by (try dsimp only); (first | assumption | (go_keep; done) | (and_intros <;> go_simp))) (fun hHeld => ?_); clear hK K; (try simp only [Act.put, List.setIfInBounds_toArray, List.set_cons_zero, List.set_cons_succ]); refine Held.one (i := 7) (by (simp only [List.getElem?_toArray, List.getElem?_cons_succ, List.getElem?_cons_zero]); exact rfl) (by kernel_rfl) (fun K hK => ?_); go_simp; refine hK.out _ _ (by (try dsimp only); (first | assumption | (go_keep; done) | (and_intros <;> go_simp))) (fun hHeld => ?_); clear hK K; (try simp only [Act.put, List.setIfInBounds_toArray, List.set_cons_zero, List.set_cons_succ]); refine Held.one (i := 8) (by (simp only [List.getElem?_toArray, List.getElem?_cons_succ, List.getElem?_cons_zero]); exact rfl) (by kernel_rfl) (fun K hK => ?_); go_simp; refine hK.out _ _ (by (try dsimp only); (first | assumption | (go_keep; done) | (and_intros <;> go_simp))) (fun hHeld => ?_); clear hK K; (try simp only [Act.put, List.setIfInBounds_toArray, List.set_cons_zero, List.set_cons_succ])
        refine Held.done (by kernel_rfl) ?_ _
        go_wp2_with fail
        go_meet
        exact ⟨wM.heap.size, w.heap.size + 1, rfl, rfl, Lib.hid ⟨new_block rfl, hset.keep (alloc_block rfl hset.lt), by omega, by omega, by omega⟩, ⟨hbM.alloc (by omega) _⟩⟩
  case rest =>
    obtain ⟨gl, gm, rfl, rfl, H0, HS0⟩ := hcut
    obtain ⟨wA, rfl⟩ : ∃ x, x = wc := ⟨_, rfl⟩
    have HT0 : Hid (TMem w 109 gm wA (some ⟨gl, 0, none⟩) 1 1 [⟨(st : Int), (st' : Int), -1, 0⟩] [(st, st')]) := Lib.hid ⟨Acc.one_ (cs := [.int .i64 (st : Int), .int .i64 (st' : Int), .int .i64 (-1), .int .i64 0]) H0.out.1 (by have := H0.out.2.2.2.1; omega) ⟨rfl, rfl⟩ (fun u hu => by (simp at hu; rcases hu with rfl | rfl | rfl | rfl <;> rfl)), H0.out.2.1, fun a h => by (injection h with h; subst h; exact H0.out.2.2.1), H0.out.2.2.2.2, HS0.out⟩
    clear H0 HS0
    go_wp2
    go_loopw [10, 12] (fun lv iv wr => ∃ (nodes : List (Nat × Nat)) (words : List (List Nat)) (fds : List Fd) (M1 : Option Addr) (m1 i : Nat), i ≤ nodes.length ∧ lv = .slice M1 nodes.length m1 ∧ iv = .int .i64 (i : Int) ∧ Hid (Bfs L (stp2 T U) (bad2 T U) (st, st') i 0 nodes words ∧ PrOk n m nodes ∧ Short words ∧ BackOk L nodes words fds) ∧ Hid (TMem w 109 gm wr M1 nodes.length m1 fds nodes)) (fun _ iv _ => 90001 - (intOf iv).toNat)
    case atStart => exact ⟨[(st, st')], [[]], [⟨(st : Int), (st' : Int), -1, 0⟩], _, 1, 0, Nat.zero_le _, rfl, rfl, Lib.hid ⟨Bfs.start, ⟨by simp, fun x hx => by (obtain rfl := List.mem_singleton.1 hx); exact ⟨hstn, hstm⟩⟩, Short.start, BackOk.start L (st, st')⟩, HT0⟩
    case round =>
      clear HT0
      obtain ⟨nodes, words, fds, M1, m1, i, hi, rfl, rfl, HB, HT⟩ := hrel
      obtain ⟨wo, rfl⟩ : ∃ wo, wo = wr := ⟨_, rfl⟩
      have hnl : nodes.length ≤ 90000 := HB.out.2.1.len300 n300 m300
      have hwl : words.length = nodes.length := HB.out.1.len.symm
      have HWo : Since w wo := ⟨HT.out.since⟩
      by_cases hlt : i < nodes.length
      · obtain ⟨x, hx⟩ := get_some hlt
        obtain ⟨x1, x2⟩ := x
        obtain ⟨u, hu⟩ := get_some (xs := words) (k := i) (by omega)
        obtain ⟨hx1, hx2⟩ : x1 < n ∧ x2 < m := HB.out.2.1.lt _ (List.mem_of_getElem? hx)
        have hul := HB.out.2.2.1 i u hu
        have HX := Lib.hid hx
        have HU := Lib.hid hu
        obtain ⟨f, hf, hf1, hf2, -⟩ := HB.out.2.2.2.2 i _ u hx hu
        obtain ⟨bl, ol, rfl, hbl, cf1, cf2, -, -⟩ := HT.out.acc.rd.fd hf
        rw [hf1] at cf1
        rw [hf2] at cf2
        simp only at cf1 cf2
        have j0 : (0 : Int) ≤ (i : Int) := by omega
        have j1 : (i : Int) < (nodes.length : Int) := by omega
        have HIS := Lib.hid (fun W (hb : Below wo.heap.size wo W) => is_impl b b' T U W x1 x2 ((HA.out.up HWo.out).up hb) ((HA'.out.up HWo.out).up hb) HO.out HO'.out (by rw [HN.out]; exact hx1) (by rw [HM.out]; exact hx2))
        clear hx hu hf hf1 hf2
        cases hbad : bad2 T U (x1, x2) with
        | true =>
          rw [hbad] at HIS
          go_wp2_with (go_at_call 27; refine (HIS.out _ (by repeat (first | exact Below.refl _ _ | refine Below.alloc ?_ (by first | omega | (simp only [sz_alloc, sz_set, sz_drew, sz_drewN]; omega) | (simp only [sz_alloc, sz_set, sz_drew, sz_drewN] at *; omega)) _ | refine Below.setCell ?_ (by first | omega | (simp only [sz_alloc, sz_set, sz_drew, sz_drewN]; omega) | (simp only [sz_alloc, sz_set, sz_drew, sz_drewN] at *; omega)) _ | refine Below.drew ?_ | refine below_drewN_ ?_ _))).mono ?_; rintro e w1 ⟨rfl, hb1⟩)
          have HFO : Hid (FirstOf T U (some u)) := Lib.hid (by
            have := HB.out.1.found hL1 HX.out HU.out hbad
            unfold FirstOf
            rw [HL.out, HST.out]
            exact this)
          have hu3 : ∀ a ∈ u, a < 3 := fun a ha => Nat.lt_of_lt_of_le (HB.out.1.lets i u HU.out a ha) hL3
          have HU3 := Lib.hid hu3
          have HT1 := Lib.hid (HT.out.below hb1)
          have hz1 := hb1.size
          have S11 : Since w1 w1 := ⟨Below.refl _ _⟩
          clear cf1 cf2 hbad HIS hu3
          go_loopw [13, 14] (fun ov kv wr => ∃ (k : Nat) (v ls : List Nat) (g c : Nat), ov = .slice (some ⟨g, 0, none⟩) ls.length c ∧ kv = .int .i64 (k : Int) ∧ Hid (words[k]? = some v ∧ k < nodes.length ∧ u = v ++ ls.reverse) ∧ Hid (Acc wr w1.heap.size 5 (some ⟨g, 0, none⟩) ls.length c (yL ls) []) ∧ Since w1 wr) (fun _ kv _ => (intOf kv).toNat)
          case atStart => exact ⟨i, u, [], w1.heap.size, 0, rfl, rfl, Lib.hid ⟨HU.out, hlt, by simp⟩, Lib.hid (Acc.empty_ (new_block rfl) (Nat.le_refl _)), ⟨(by repeat (first | exact Below.refl _ _ | refine Below.alloc ?_ (by first | omega | (simp only [sz_alloc, sz_set, sz_drew, sz_drewN]; omega) | (simp only [sz_alloc, sz_set, sz_drew, sz_drewN] at *; omega)) _ | refine Below.setCell ?_ (by first | omega | (simp only [sz_alloc, sz_set, sz_drew, sz_drewN]; omega) | (simp only [sz_alloc, sz_set, sz_drew, sz_drewN] at *; omega)) _ | refine Below.drew ?_ | refine below_drewN_ ?_ _))⟩⟩
          case round =>
            obtain ⟨k, v, ls, g, c, rfl, rfl, H2, HA2, HS2⟩ := hrel
            obtain ⟨w2, rfl⟩ : ∃ w2, w2 = wr := ⟨_, rfl⟩
            obtain ⟨y, hy⟩ := get_some H2.out.2.1
            obtain ⟨f, hf, -, -, hback⟩ := HB.out.2.2.2.2 k y v hy H2.out.1
            have HT2 := HT1.out.below (w' := w2) HS2.out
            have hlu : ls.length ≤ u.length := by have := H2.out.2.2; rw [this]; simp
            obtain ⟨_, _, ⟨⟩, _, -, -, cf3, cf4⟩ := HT2.acc.rd.fd hf
            have hk : k < nodes.length := H2.out.2.1
            have hz2 : w1.heap.size ≤ w2.heap.size := HS2.out.size
            have k0 : (0 : Int) ≤ (k : Int) := by omega
            have k1 : (k : Int) < (nodes.length : Int) := by omega
            rcases hback with ⟨hb0, hv0⟩ | ⟨p, a, z, hpk, hbp, hfa, haL, hz, hvz⟩
            · rw [hb0] at cf3
              have hul0 : u = ls.reverse := by have := H2.out.2.2; rw [hv0] at this; simpa using this
              have HUL := Lib.hid hul0
              have HRV := Lib.hid (reverse_impl g ls.length c (fun j => ls.getD j 0) w2 (by omega) (by_blk HA2.out))
              have hgl : g < w2.heap.size := (HA2.out.lt _ rfl).2
              have hg1 : w1.heap.size ≤ g := (HA2.out.lt _ rfl).1
              clear hb0 hv0 hul0 hy hf
              have HS3 : Hid (∀ w3, OnlyB [g] w2 w3 → Since w w3) := Lib.hid fun w3 ho => ⟨HWo.out.trans ((hb1.trans ((HS2.out.trans (ho.below (fun x hx => by rw [List.mem_singleton.1 hx]; exact hg1) HS2.out.size)).mono hz1)).mono HWo.out.size)⟩
              go_wp2_with (go_at_call 75; refine HRV.out.mono ?_; rintro e w3 ⟨rfl, ho3, hb3⟩; have hcv := conv_word (c := c) HUL.out rfl HU3.out w3 hb3; have hs3 := HS3.out w3 ho3)
              go_ret2
              exact ⟨some u, HFO.out, fun u' hu' => by (injection hu' with hu'; subst hu'; omega), rfl, hs3.out⟩
            · rw [hbp] at cf3
              rw [hfa] at cf4
              have ha3 : a < 3 := by omega
              have hw8 := w97b a ha3
              have hc8 := wu8 a ha3
              have H2' : Hid (words[p]? = some z ∧ p < nodes.length ∧ u = z ++ (ls ++ [a]).reverse) := Lib.hid ⟨hz, by omega, by rw [H2.out.2.2, hvz]; simp⟩
              have hf4 := Lib.hid hf
              have hlen1 : ls.length + 1 ≤ 9223372036854775807 := by omega
              have hlen2 : (ls.length + 1) * 1 ≤ 140737488355328 := by omega
              have hlen3 : w1.heap.size ≤ (w2.alloc (.cells #[.int .u8 (97 + (a : Int))] 5)).heap.size := by rw [sz_alloc]; omega
              have hb4 := Lib.hid hbp
              clear hbp hfa hz hvz hy hf
              go_wp2_with (at_builtin; refine wpList_push (α := By) _ rfl (.tmp 49) (.tmp 57) 85 rfl w1.heap.size 5 (.int .u8 0) 1 Try.underlying85 infoBy rfl (some ⟨g, 0, none⟩) ls.length c _ [] rfl (HA2.out.alloc _) w2.heap.size 1 rfl ⟨a⟩ [.int .u8 (97 + (a : Int))] [] ⟨rfl, rfl⟩ (new_cells (by first | rfl | simp [sz_set])) (fun u hu => by (simp at hu; subst hu; rfl)) ⟨List.nodup_nil, fun g hg => by simp at hg⟩ (fun g hg => by simp at hg) hlen1 hlen2 hlen3 ?_
                           intro D d w4 hacc hgr hnew
                           obtain ⟨G, rfl⟩ := acc_some hacc
                           have HA4 : Hid (Acc w4 w1.heap.size 5 (some ⟨G, 0, none⟩) (ls.length + 1) d (yL (ls ++ [a])) []) := Lib.hid (by rw [yL_snoc]; exact hacc)
                           have HS4 : Since w1 w4 := ⟨Acc.since (HA2.out.alloc _) hgr (HS2.out.alloc HS2.out.size _) (Nat.le_refl _) (by first | omega | (simp only [sz_alloc, sz_set, sz_drew, sz_drewN]; omega) | (simp only [sz_alloc, sz_set, sz_drew, sz_drewN] at *; omega))⟩
                           have HT4 := Lib.hid (HT1.out.below HS4.out)
                           obtain ⟨_, _, e4, _, -, -, cg3, -⟩ := HT4.out.acc.rd.fd hf4.out
                           cases e4
                           rw [hb4.out] at cg3
                           clear hacc hgr hnew)
              clear hw8 hc8
              go_roundw
              case rel => exact ⟨p, z, ls ++ [a], G, d, by (rw [List.length_append]; rfl), rfl, H2', Lib.hid (by rw [List.length_append]; exact HA4.out), HS4⟩
              case measure => (simp [intOf]; try omega)
        | false =>
          rw [hbad] at HIS
          go_wp2_with (go_at_call 27; refine (HIS.out _ (by repeat (first | exact Below.refl _ _ | refine Below.alloc ?_ (by first | omega | (simp only [sz_alloc, sz_set, sz_drew, sz_drewN]; omega) | (simp only [sz_alloc, sz_set, sz_drew, sz_drewN] at *; omega)) _ | refine Below.setCell ?_ (by first | omega | (simp only [sz_alloc, sz_set, sz_drew, sz_drewN]; omega) | (simp only [sz_alloc, sz_set, sz_drew, sz_drewN] at *; omega)) _ | refine Below.drew ?_ | refine below_drewN_ ?_ _))).mono ?_; rintro e w1 ⟨rfl, hb1⟩)
          have HBAD := Lib.hid hbad
          have HT1 := Lib.hid (HT.out.below hb1)
          have hil : i < 90000 := by omega
          clear cf1 cf2 hbad HIS j1
          go_loopw [10, 64] (fun lv av wr => ∃ (nodes : List (Nat × Nat)) (words : List (List Nat)) (fds : List Fd) (M1 : Option Addr) (m1 a : Nat), a ≤ L ∧ lv = .slice M1 nodes.length m1 ∧ av = .int .i64 (a : Int) ∧ Hid (Bfs L (stp2 T U) (bad2 T U) (st, st') i a nodes words ∧ PrOk n m nodes ∧ Short words ∧ BackOk L nodes words fds ∧ nodes[i]? = some (x1, x2) ∧ words[i]? = some u) ∧ Hid (TMem w 109 gm wr M1 nodes.length m1 fds nodes)) (fun _ av _ => L - (intOf av).toNat)
          case atStart => exact ⟨nodes, words, fds, _, m1, 0, Nat.zero_le _, rfl, rfl, Lib.hid ⟨HB.out.1, HB.out.2.1, HB.out.2.2.1, HB.out.2.2.2, HX.out, HU.out⟩, HT1⟩
          case round =>
            clear HB HT HX HU hnl hwl hlt hi HT1 hb1 HWo
            obtain ⟨nodes, words, fds, M1, m1, a, ha, rfl, rfl, HB, HT⟩ := hrel
            obtain ⟨w2, rfl⟩ : ∃ w2, w2 = wr := ⟨_, rfl⟩
            have hnl : nodes.length ≤ 90000 := HB.out.2.1.len300 n300 m300
            have hil2 : i < nodes.length := (List.getElem?_eq_some_iff.1 HB.out.2.2.2.2.1).1
            have HW2 : Since w w2 := ⟨HT.out.since⟩
            by_cases hal : a < L
            · obtain ⟨f, hf, hf1, hf2, -⟩ := HB.out.2.2.2.1.2 i _ u HB.out.2.2.2.2.1 HB.out.2.2.2.2.2
              obtain ⟨bl, ol, rfl, hbl, cf1, cf2, -, -⟩ := HT.out.acc.rd.fd hf
              rw [hf1] at cf1
              rw [hf2] at cf2
              simp only at cf1 cf2
              obtain ⟨y1, hy1⟩ : ∃ y, (stp2 T U (x1, x2) a).1 = y := ⟨_, rfl⟩
              obtain ⟨y2, hy2⟩ : ∃ y, (stp2 T U (x1, x2) a).2 = y := ⟨_, rfl⟩
              have HST2 : Hid (stp2 T U (x1, x2) a = (y1, y2)) := Lib.hid (by rw [← hy1, ← hy2])
              obtain ⟨yl1, yl2⟩ : y1 < n ∧ y2 < m := by
                have := stp2_lt HO.out HO'.out HLE.out (x := (x1, x2)) (a := a) (by rw [HN.out]; exact hx1) (by rw [HM.out]; exact hx2) (by rw [HL.out]; exact hal)
                rw [hy1, hy2, HN.out, HM.out] at this
                exact this
              have HSP := Lib.hid (fun W (hb : Below w2.heap.size w2 W) => step_impl b b' T U W x1 x2 a ((HA.out.up HW2.out).up hb) ((HA'.out.up HW2.out).up hb) HO.out HO'.out HLE.out (by rw [HN.out]; exact hx1) (by rw [HM.out]; exact hx2) (by rw [HL.out]; exact hal))
              rw [hy1, hy2] at HSP
              have k0 : (a : Int) < (L : Int) := by omega
              have k1 : (0 : Int) ≤ (i : Int) := by omega
              have k2 : (i : Int) < (nodes.length : Int) := by omega
              clear hf hf1 hf2 hy1 hy2
              by_cases hmem : (y1, y2) ∈ nodes
              · have HLK : Hid (∀ w3, Below w2.heap.size w2 w3 → (Instr.lookup 111 (.map (some gm)) (.agg #[.int .i64 (y1 : Int), .int .i64 (y2 : Int)]) false).run Try.prog w3 = .ok (.bool true) w3) := Lib.hid fun w3 hb => by
                  have := (HT.out.below hb).set.look (pairOk_pL HB.out.2.1 n300 m300) (x := ((y1 : Int), (y2 : Int))) ⟨⟨by simp only; omega, by simp only; omega⟩, ⟨by simp only; omega, by simp only; omega⟩⟩
                  rwa [decide_eq_true (mem_pL.2 hmem)] at this
                have HBO : Hid (Bfs L (stp2 T U) (bad2 T U) (st, st') i (a + 1) nodes words) := Lib.hid (HB.out.1.old HB.out.2.2.2.2.2 HB.out.2.2.2.2.1 (by rw [HST2.out]; exact hmem))
                clear hmem
                go_wp2_with (go_at_call 26; refine (HSP.out _ (by repeat (first | exact Below.refl _ _ | refine Below.alloc ?_ (by first | omega | (simp only [sz_alloc, sz_set, sz_drew, sz_drewN]; omega) | (simp only [sz_alloc, sz_set, sz_drew, sz_drewN] at *; omega)) _ | refine Below.setCell ?_ (by first | omega | (simp only [sz_alloc, sz_set, sz_drew, sz_drewN]; omega) | (simp only [sz_alloc, sz_set, sz_drew, sz_drewN] at *; omega)) _ | refine Below.drew ?_ | refine below_drewN_ ?_ _))).mono ?_; rintro e w3 ⟨rfl, hb3⟩; have hlk := HLK.out (w3.alloc (.cells #[.int .i64 (y1 : Int), .int .i64 (y2 : Int)] 57)) (hb3.alloc hb3.size _))
                go_roundw
                case rel => exact ⟨nodes, words, fds, _, m1, a + 1, by omega, rfl, by go_num, Lib.hid ⟨HBO.out, HB.out.2⟩, Lib.hid (HT.out.below (hb3.alloc hb3.size _))⟩
                case measure => (simp [intOf]; try omega)
              · have HLK : Hid (∀ w3, Below w2.heap.size w2 w3 → (Instr.lookup 111 (.map (some gm)) (.agg #[.int .i64 (y1 : Int), .int .i64 (y2 : Int)]) false).run Try.prog w3 = .ok (.bool false) w3) := Lib.hid fun w3 hb => by
                  have := (HT.out.below hb).set.look (pairOk_pL HB.out.2.1 n300 m300) (x := ((y1 : Int), (y2 : Int))) ⟨⟨by simp only; omega, by simp only; omega⟩, ⟨by simp only; omega, by simp only; omega⟩⟩
                  rwa [decide_eq_false (fun h => hmem (mem_pL.1 h))] at this
                have HPT : Hid (∀ w3, Below w2.heap.size w2 w3 → ∃ w4, (Instr.mapUpdate 111 (.map (some gm)) (.agg #[.int .i64 (y1 : Int), .int .i64 (y2 : Int)]) (.bool true)).run Try.prog w3 = .ok () w4 ∧ SetAt w4 gm (pL nodes ++ [((y1 : Int), (y2 : Int))]) ∧ OnlyB [gm] w3 w4) := Lib.hid fun w3 hb =>
                  (HT.out.below hb).set.put (pairOk_pL HB.out.2.1 n300 m300) (x := ((y1 : Int), (y2 : Int))) ⟨⟨by simp only; omega, by simp only; omega⟩, ⟨by simp only; omega, by simp only; omega⟩⟩ (fun h => hmem (mem_pL.1 h))
                have HBN : Hid (Bfs L (stp2 T U) (bad2 T U) (st, st') i (a + 1) (nodes ++ [(y1, y2)]) (words ++ [u ++ [a]])) := Lib.hid (by have := HB.out.1.new hal HB.out.2.2.2.2.2 HB.out.2.2.2.2.1; rwa [HST2.out] at this)
                have HPN : Hid (PrOk n m (nodes ++ [(y1, y2)])) := Lib.hid (HB.out.2.1.snoc hmem yl1 yl2)
                have HBK : Hid (BackOk L (nodes ++ [(y1, y2)]) (words ++ [u ++ [a]]) (fds ++ [⟨(y1 : Int), (y2 : Int), (i : Int), (a : Int)⟩])) := Lib.hid (HB.out.2.2.2.1.snoc HB.out.1.len.symm HB.out.2.2.2.2.2 hal (y1, y2))
                have hgm2 : gm < w2.heap.size := HT.out.set.lt
                clear hmem
                go_wp2_with (first
                  | (go_at_call 26; refine (HSP.out _ (by repeat (first | exact Below.refl _ _ | refine Below.alloc ?_ (by first | omega | (simp only [sz_alloc, sz_set, sz_drew, sz_drewN]; omega) | (simp only [sz_alloc, sz_set, sz_drew, sz_drewN] at *; omega)) _ | refine Below.setCell ?_ (by first | omega | (simp only [sz_alloc, sz_set, sz_drew, sz_drewN]; omega) | (simp only [sz_alloc, sz_set, sz_drew, sz_drewN] at *; omega)) _ | refine Below.drew ?_ | refine below_drewN_ ?_ _))).mono ?_; rintro e w3 ⟨rfl, hb3⟩
                     have hb3' : Below w2.heap.size w2 (w3.alloc (.cells #[.int .i64 (y1 : Int), .int .i64 (y2 : Int)] 57)) := hb3.alloc hb3.size _
                     have hlk := HLK.out _ hb3'
                     obtain ⟨w4, hput, hset, honly⟩ := HPT.out _ hb3'
                     have HT4 : Hid (TMem w 109 gm w4 (some ⟨bl, ol, none⟩) nodes.length m1 fds (nodes ++ [(y1, y2)])) := Lib.hid ((HT.out.below hb3').put hset honly)
                     have hz3 := hb3.size
                     have hz4 := honly.size
                     have p0 : w4.cell? ⟨w3.heap.size, 0, none⟩ = some (.int .i64 (y1 : Int)) := (World.cell?_of_block (a := ⟨w3.heap.size, 0, none⟩) (honly.block w3.heap.size (by simp) (by simp; omega))).trans (by go_simp)
                     have p1 : w4.cell? ⟨w3.heap.size, 1, none⟩ = some (.int .i64 (y2 : Int)) := (World.cell?_of_block (a := ⟨w3.heap.size, 1, none⟩) (honly.block w3.heap.size (by simp) (by simp; omega))).trans (by go_simp)
                     have hlen3 : w.heap.size + 1 ≤ w4.heap.size := by have := HT4.out.set.lt; have := HT4.out.low; omega)
                  | (at_builtin; refine wpList_push (α := Fd) _ rfl (.tmp 81) (.tmp 86) 110 rfl (w.heap.size + 1) 109 (.agg #[.int .i64 0, .int .i64 0, .int .i64 0, .int .i64 0]) 32 Try.underlying110 infoFd rfl (some ⟨bl, ol, none⟩) nodes.length m1 _ [] rfl (HT4.out.acc.alloc _) w4.heap.size 1 rfl ⟨(y1 : Int), (y2 : Int), (i : Int), (a : Int)⟩ [.int .i64 (y1 : Int), .int .i64 (y2 : Int), .int .i64 (i : Int), .int .i64 (a : Int)] [] ⟨rfl, rfl⟩ (new_cells (by first | rfl | simp [sz_set])) (fun u hu => by (simp at hu; rcases hu with rfl | rfl | rfl | rfl <;> rfl)) ⟨List.nodup_nil, fun g hg => by simp at hg⟩ (fun g hg => by simp at hg) (by omega) (by omega) (by rw [sz_alloc]; omega) ?_
                     intro D d w5 hacc hgr hnew
                     have HT5 : Hid (TMem w 109 gm w5 D (nodes.length + 1) d (fds ++ [⟨(y1 : Int), (y2 : Int), (i : Int), (a : Int)⟩]) (nodes ++ [(y1, y2)])) := Lib.hid (TMem.push (HT4.out.below ((Below.refl _ _).alloc (Nat.le_refl _) _)) hacc hgr hnew)
                     clear hacc hgr hnew))
                go_roundw
                case rel =>
                  refine ⟨nodes ++ [(y1, y2)], words ++ [u ++ [a]], fds ++ [⟨(y1 : Int), (y2 : Int), (i : Int), (a : Int)⟩], D, d, a + 1, by omega, by (rw [List.length_append]; rfl), by go_num, Lib.hid ⟨HBN.out, HPN.out, HB.out.2.2.1.snoc HB.out.2.2.2.2.2 a, HBK.out, ?_, ?_⟩, Lib.hid (by rw [List.length_append]; exact HT5.out)⟩
                  · rw [List.getElem?_append_left hil2]; exact HB.out.2.2.2.2.1
                  · rw [List.getElem?_append_left (List.getElem?_eq_some_iff.1 HB.out.2.2.2.2.2).1]; exact HB.out.2.2.2.2.2
                case measure => (simp [intOf]; try omega)
            · obtain rfl : L = a := by omega
              go_wp2
              go_roundw
              case rel => exact ⟨nodes, words, fds, M1, m1, i + 1, by omega, rfl, by go_num, Lib.hid ⟨HB.out.1.next hL1 HB.out.2.2.2.2.2 HB.out.2.2.2.2.1 HBAD.out, HB.out.2.1, HB.out.2.2.1, HB.out.2.2.2.1⟩, HT⟩
              case measure => (simp [intOf]; try omega)
      · obtain rfl : i = nodes.length := by omega
        have HFO : Hid (FirstOf T U none) := Lib.hid (by
          have h1 := HB.out.1
          rw [HB.out.1.len] at h1
          have := h1.none_ hL1
          unfold FirstOf
          rw [HL.out, HST.out]
          exact this)
        go_wp2
        go_ret2
        exact ⟨none, HFO.out, fun u hu => by (cases hu), rfl, HWo.out⟩
end Go.Proofs.Ytpknkaidmefenaa
