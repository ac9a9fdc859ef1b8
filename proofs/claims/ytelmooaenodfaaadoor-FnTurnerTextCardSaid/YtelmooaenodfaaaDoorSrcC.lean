/-
  The reference's drawn turner is valid. Conditions: those in each statement.
-/
import Derived.Test.YtelmooaenodfaaaDoorSrcB
import Derived.Test.YtelmooaenodfaaaDoorSTurner
import Derived.Test.YtelmooaenodfaaaDoorTxtLaw
set_option linter.unusedVariables false
set_option linter.unusedSimpArgs false
set_option maxRecDepth 100000
set_option maxHeartbeats 1000000
namespace Go.Proofs.YtelmooaenodfaaaDoor
open Go.RowKit

theorem OnlyB.setNew {bs : List Nat} {a b : World} (h : OnlyB bs a b) {g i : Nat} (hg : a.heap.size ≤ g) (u : Value) : OnlyB bs a (b.setCell ⟨g, i, none⟩ u) :=
  ⟨h.os, h.tape, h.output, by rw [sz_set]; exact h.size, fun k hk hn => (Below.heap_setCell _ _ _ _ (by simp only; omega)).trans (h.block k hk hn)⟩
theorem OnlyB.grown {bs : List Nat} {a b c : World} (h : OnlyB bs a b) {A : Option Addr} (hgr : b.grownBy c (A.map (·.block))) (hA : ∀ x, A = some x → a.heap.size ≤ x.block) : OnlyB bs a c := by
  have hb : Below a.heap.size b c := Below.grown (Below.refl _ _) hgr h.size (fun g hg => by
    cases hD : A with
    | none => rw [hD] at hg; simp at hg
    | some x => rw [hD] at hg; simp at hg; have := hA x hD; omega)
  exact ⟨hb.os.trans h.os, hb.tape.trans h.tape, hb.output.trans h.output, Nat.le_trans h.size hgr.size, fun k hk hn => (hb.block k hk).trans (h.block k hk hn)⟩
theorem Src.alloc {w : World} {S M : Nat} (h : Src w S M) (o : Obj) : Src (w.alloc o) S M := h.up ((Below.refl _ _).alloc (Nat.le_refl _) o)
theorem Src.setNew {w : World} {S M g i : Nat} (h : Src w S M) (hg : S < g) (u : Value) : Src (w.setCell ⟨g, i, none⟩ u) S M := h.keep fun k hk => Below.heap_setCell _ _ _ _ (by simp only; omega)
theorem Acc.onlyB {α : Type} [Cod α] {w w' : World} {B S : Nat} {e : TypeId} {A : Option Addr} {n c : Nat} {xs : List α} {bs : List Nat} (h : Acc w B e A n c xs bs) (ho : OnlyB [S] w w') (hS : S < B) : Acc w' B e A n c xs bs :=
  h.keep (fun a ha => ho.block _ (h.lt a ha).2 (by have := h.lt a ha; simp; omega)) (fun g hg => ho.block g (h.fresh.2 g hg).2 (by have := h.fresh.2 g hg; simp; omega)) ho.size
theorem rd_ints {w : World} {n : Nat} (hn : n = w.heap.size) (xs : List Int) (t : TypeId) : RdS (w.alloc (.cells (xs.map (Value.int .i64)).toArray t)) (w.alloc (.cells (xs.map (Value.int .i64)).toArray t)).heap.size (some ⟨n, 0, none⟩) xs := fun k x hx =>
  ⟨n, 0, [.int .i64 x], rfl, by rw [sz_alloc]; omega, rfl, fun j u hu => by
    obtain rfl : j = 0 := by
      have := (List.getElem?_eq_some_iff.1 hu).1
      simpa using this
    simp only [List.getElem?_cons_zero, Option.some.injEq] at hu
    subst hu
    have h1 : 0 + (k * Cod.size Int + 0) = k := by simp [Cod.size]
    rw [h1]
    exact new_cells hn k _ (by rw [List.getElem?_map, hx]; rfl)⟩
theorem wrap_v {z y : Int} (h0 : -100 ≤ z) (h1 : z ≤ 1000000) (hy : y = z) : Value.int .i64 (wrap64 z) = .int .i64 y ∧ Value.int .i64 (IntKind.i64.wrap z) = .int .i64 y := by
  subst hy
  have e1 : wrap64 y = y := by unfold wrap64; omega
  have e2 : IntKind.i64.wrap y = y := by rw [IntKind.wrap_i64]; omega
  rw [e1, e2]
  exact ⟨rfl, rfl⟩
theorem pick_i (S M m : Nat) (n : Int) (hn : n = (m : Int)) (w : World) (h : Src w S M) (hM : M ≤ 1000000) (hm : 1 ≤ m) (hm2 : m ≤ 200) :
    Calls Tryd.prog 93 #[.pointer (some ⟨S, 0, none⟩), .int .i64 n] w fun e w' => ∃ v : Nat, e = .returned (.int .i64 (v : Int)) ∧ v < m ∧ Src w' S (M + 1) ∧ OnlyB [S] w w' := by
  subst hn
  exact pick_spec S M m w h hM hm hm2
theorem one_i (S M m : Nat) (n : Int) (hn : n = (m : Int)) (w : World) (h : Src w S M) (hM : M ≤ 1000000) (hm : 1 ≤ m) (hm2 : m ≤ 200) :
    Calls Tryd.prog 131 #[.pointer (some ⟨S, 0, none⟩), .int .i64 n] w fun e w' => ∃ b : Bool, e = .returned (.bool b) ∧ Src w' S (M + 1) ∧ OnlyB [S] w w' := by
  subst hn
  exact one_spec S M m w h hM hm hm2
theorem among_i (S M : Nat) (A : Option Addr) (c n : Nat) (xs : List Int) (hn : n = xs.length) (w : World) (h : Src w S M) (hM : M ≤ 1000000) (r : RdS w w.heap.size A xs) (hA : ∀ a, A = some a → a.block ≠ S) (h1 : 1 ≤ xs.length) (h2 : xs.length ≤ 200) :
    Calls Tryd.prog 130 #[.pointer (some ⟨S, 0, none⟩), .slice A n c] w fun e w' => ∃ y ∈ xs, e = .returned (.int .i64 y) ∧ Src w' S (M + 1) ∧ OnlyB [S] w w' := by
  subst hn
  exact among_spec S M A c xs w h hM r hA h1 h2
theorem mv_ok {n L k x1 x2 : Int} (h0 : 0 ≤ x1) (h1 : x1 < n) (h2 : -1 ≤ x2) (h3 : x2 ≤ 1) (h4 : k = L → x2 ≠ -1) (h5 : k = L + 1 → x2 ≠ 1) : moveOk n L k (x1, x2) = true := by
  unfold moveOk
  rw [if_neg (by simp only; omega)]
  simp only [Bool.and_eq_true, Bool.not_eq_true', Bool.and_eq_false_iff, decide_eq_false_iff_not]
  refine ⟨inB_iff.2 ⟨by omega, by omega⟩, inB_iff.2 ⟨by omega, by omega⟩, ?_, ?_⟩
  · by_cases hk : k = L
    · exact .inr (h4 hk)
    · exact .inl hk
  · by_cases hk : k = L + 1
    · exact .inr (h5 hk)
    · exact .inl hk
theorem mv_stop {n L k : Int} {v : Nat} (hv : v < 2) : moveOk n L k (-1 - (v : Int), 0) = true := by
  unfold moveOk
  rw [if_pos (by simp only; omega)]
  rfl
theorem moves_snoc {n L : Int} : ∀ {ys : List (Int × Int)} {c : Nat} {y : Int × Int}, movesFrom n L c ys = true → moveOk n L ((c + ys.length : Nat) : Int) y = true → movesFrom n L c (ys ++ [y]) = true
  | [], c, y, _, h => by simpa [movesFrom] using h
  | x :: ys, c, y, h1, h2 => by
    rw [List.cons_append]
    simp only [movesFrom, Bool.and_eq_true] at h1 ⊢
    refine ⟨h1.1, moves_snoc h1.2 ?_⟩
    rw [List.length_cons] at h2
    rw [show c + 1 + ys.length = c + (ys.length + 1) by omega]
    exact h2

set_option maxHeartbeats 1600000 in
theorem drawn_spec (S L M0 : Nat) (w : World) (h : Src w S M0) (hM : M0 ≤ 100000) (hL1 : 1 ≤ L) (hL2 : L ≤ 2) :
    Calls Tryd.prog 92 #[.pointer (some ⟨S, 0, none⟩), .int .i64 (L : Int), .int .i64 5] w fun e w' => ∃ (T : Tn) (v : Value) (bs : List Nat), e = .returned v ∧ T.okB = true ∧ OwnTn w' v T bs ∧ Fresh w.heap.size w' bs ∧ OnlyB [S] w w' := by
  have hSw := h.lt
  have HS := Lib.hid h
  have hL3 : (L : Int) ≤ 2 := by omega
  obtain ⟨hwL2, hwL⟩ := wrap_v (z := (L : Int) + 2) (by omega) (by omega) rfl
  obtain ⟨hwL3, hwL4⟩ := wrap_v (z := (L : Int) + 1) (by omega) (by omega) rfl
  clear h
  go_enter Tryd.func92, Tryd.ntmps92
  go_wp2_with fail
  refine (pick_i S M0 5 5 rfl _ (HS.out.alloc _) (by omega) (by decide) (by decide)).mono ?_
  rintro e w1 ⟨v1, rfl, hv1, hs1, ho1⟩
  obtain ⟨N, hN⟩ : ∃ N, N = v1 + 1 := ⟨_, rfl⟩
  obtain ⟨hw1', hw1''⟩ := wrap_v (z := (1 : Int) + (v1 : Int)) (y := (N : Int)) (by omega) (by omega) (by omega)
  have hz1 := ho1.size
  simp only [sz_alloc] at hz1
  have hR1 : w1.heap[w.heap.size]? = some (.cells #[.int .i64 0, .int .i64 0, .slice none 0 0] 40 (0, 0)) := (ho1.block _ (by simp [sz_alloc]) (by simp; omega)).trans (new_block rfl)
  have HR1 := Lib.hid hR1
  have HS1 := Lib.hid hs1
  have HO1 : Hid (OnlyB [S] w w1) := Lib.hid (OnlyB.trans ((OnlyB.refl _ _).alloc _) ho1)
  have hNb : 1 ≤ N ∧ N ≤ 5 := by omega
  obtain ⟨hNb1, hNb2⟩ := hNb
  clear hs1 ho1 hR1 hN
  go_wp2_with fail
  refine (pick_i S (M0 + 1) N N rfl _ HS1.out (by omega) hNb1 (by omega)).mono ?_
  rintro e w2 ⟨v2, rfl, hv2, hs2, ho2⟩
  have hz2 := ho2.size
  have HR2 : Hid (w2.heap[w.heap.size]? = some (.cells #[.int .i64 0, .int .i64 0, .slice none 0 0] 40 (0, 0))) := Lib.hid ((ho2.block _ (by omega) (by simp; omega)).trans HR1.out)
  have HS2 := Lib.hid hs2
  have HO2 : Hid (OnlyB [S] w w2) := Lib.hid (OnlyB.trans HO1.out ho2)
  have hS2 : S < w2.heap.size := hs2.lt
  obtain ⟨g, hg⟩ : ∃ g, g = w2.heap.size := ⟨_, rfl⟩
  have HG := Lib.hid hg
  clear hs2 ho2
  go_wp2
  rw [← hg]
  have hSg0 : S < g := by omega
  have hwg0 : w.heap.size < g := by omega
  clear hg
  go_loopw [9] (fun i wr => ∃ (k : Nat) (D : Option Addr) (m : Nat) (bs : List Nat) (rows : List (List (Int × Int))), k ≤ N ∧ i = .int .i64 k ∧ Hid (wr.heap[g]? = some (.cells #[.int .i64 L, .int .i64 v2, .slice D k m] 40 (0, 0))) ∧ Hid (wr.heap[w.heap.size]? = some (.cells #[.int .i64 0, .int .i64 0, .slice none 0 0] 40 (0, 0))) ∧ Hid (Acc wr (g + 1) 97 D k m rows bs) ∧ Hid (rows.all (rowOk N L) = true) ∧ Hid (Src wr S (M0 + 2 + 40 * k)) ∧ Hid (OnlyB [S] w wr) ∧ g < wr.heap.size) (fun i _ => N - (intOf i).toNat)
  case atStart =>
    exact ⟨0, none, 0, [], [], Nat.zero_le _, rfl, Lib.hid (by rw [HG.out]; exact (by repeat (first | (with_reducible exact new_block rfl) | ((with_reducible refine new_block ?_); (focus (simp only [sz_alloc, sz_set, sz_drew, sz_drewN]; done))) | ((with_reducible refine blk_fill3 (cur := #[.int .i64 0 , .int .i64 0 , .slice none 0 0]) ?_ ?_); rotate_left; (focus (rfl; done))) | ((with_reducible refine blk_far ?_ ?_ _); rotate_left; (focus ((try simp only [ne_eq]); omega; done))) | ((with_reducible refine alloc_block ?_ ?_); rotate_left; (focus (first | omega | (simp only [sz_alloc, sz_set, sz_drew, sz_drewN]; omega) | (simp only [sz_alloc, sz_set, sz_drew, sz_drewN] at *; omega); done))) | rw [heap_drew] | ((with_reducible refine (Below.block HR2.out _ ?_).trans ?_); (focus (first | omega | (simp only [sz_alloc, sz_set, sz_drew, sz_drewN]; omega) | (simp only [sz_alloc, sz_set, sz_drew, sz_drewN] at *; omega); done)))))), Lib.hid (by first | exact alloc_block HR2.out (by omega) | skip), Lib.hid (Acc.nil_ _ _ _), Lib.hid rfl, Lib.hid (by repeat (first | exact HS2.out | refine Src.alloc ?_ _ | refine Src.setNew ?_ (by omega) _)), Lib.hid (by repeat (first | exact HO2.out | refine OnlyB.alloc ?_ _ | refine OnlyB.setNew ?_ (by omega) _)), (by have := HG.out; simp only [sz_alloc]; omega)⟩
  case round =>
    obtain ⟨k, D, m, bs, rows, hk, rfl, HB, HR, HA, HRW, HSr, HOr, hgr0⟩ := hrel
    obtain ⟨wo, rfl⟩ : ∃ wo, wo = wr := ⟨_, rfl⟩
    have hSg : S < g := by omega
    have hSwo : S < wo.heap.size := by omega
    have hwg : w.heap.size < g := by omega
    by_cases hlt : k < N
    · have i3 : (k : Int) < (N : Int) := by omega
      obtain ⟨Mo, hMo⟩ : ∃ Mo, Mo = M0 + 2 + 40 * k := ⟨_, rfl⟩
      have hMo2 : Mo ≤ 200000 := by omega
      rw [← hMo] at HSr
      have HMO := Lib.hid hMo
      clear hMo
      go_wp2
      go_loopw [10, 11] (fun rw_ i wi => ∃ (j : Nat) (E : Option Addr) (f : Nat) (ys : List (Int × Int)), j ≤ L + 2 ∧ rw_ = .slice E j f ∧ i = .int .i64 j ∧ Hid (Acc wi wo.heap.size 99 E j f ys []) ∧ Hid (movesFrom N L 0 ys = true) ∧ Hid (Src wi S (Mo + 8 * j)) ∧ Hid (OnlyB [S] wo wi)) (fun _ i _ => L + 2 - (intOf i).toNat)
      case atStart => exact ⟨0, _, _, [], Nat.zero_le _, rfl, rfl, Lib.hid (Acc.empty_ (new_block rfl) (Nat.le_refl _)), Lib.hid rfl, Lib.hid (HSr.out.alloc _), Lib.hid ((OnlyB.refl _ _).alloc _)⟩
      case round =>
        obtain ⟨j, E, f, ys, hj, rfl, rfl, H2, HYS, HSi, H0⟩ := hrel
        obtain ⟨wi, rfl⟩ : ∃ wi, wi = wr := ⟨_, rfl⟩
        have hzi := H0.out.size
        have hSi : S < wi.heap.size := by omega
        have HO0 : Hid (OnlyB [S] wi wi) := Lib.hid (OnlyB.refl _ _)
        have HS0 := HSi
        by_cases hlt2 : j < L + 2
        · have j3 : (j : Int) < (L : Int) + 2 := by omega
          go_wp2_with fail
          refine (pick_i S (Mo + 8 * j) N N rfl _ HS0.out (by omega) hNb1 (by omega)).mono ?_
          rintro e w11 ⟨v11, rfl, hv11, hs11, ho11⟩
          have hz11 := ho11.size
          (try simp only [sz_alloc, sz_set] at hz11)
          have HO11 : Hid (OnlyB [S] wi w11) := Lib.hid (OnlyB.trans (by repeat (first | exact HO0.out | refine OnlyB.alloc ?_ _ | refine OnlyB.setNew ?_ (by omega) _)) ho11)
          have HS11 := Lib.hid hs11
          clear ho11 hs11
          go_wp2_with fail
          refine (among_i S (Mo + 8 * j + 1) (some ⟨w11.heap.size, 0, none⟩) 6 6 [1, 1, 1, -1, -1, 0] rfl _ (by repeat (first | exact HS11.out | refine Src.alloc ?_ _ | refine Src.setNew ?_ (by omega) _)) (by omega) (rd_ints (w := w11) rfl [1, 1, 1, -1, -1, 0] _) (fun a ha => by cases ha; simp; omega) (by decide) (by decide)).mono ?_
          rintro e w12 ⟨y12, hy12, rfl, hs12, ho12⟩
          have hz12 := ho12.size
          (try simp only [sz_alloc, sz_set] at hz12)
          have HO12 : Hid (OnlyB [S] wi w12) := Lib.hid (OnlyB.trans (by repeat (first | exact HO11.out | refine OnlyB.alloc ?_ _ | refine OnlyB.setNew ?_ (by omega) _)) ho12)
          have HS12 := Lib.hid hs12
          clear ho12 hs12
          have hd12 : -1 ≤ y12 ∧ y12 ≤ 1 := by simp at hy12; omega
          have hgm : wi.heap.size ≤ w12.heap.size := HO12.out.size
          by_cases hjL : j = L
          · have jl : Value.bool ((j : Int) == (L : Int)) = .bool true := by rw [hjL]; simp
            have jla : Value.bool (decide ((j : Int) = (L : Int))) = .bool true := by rw [hjL]; simp
            have jlb : Value.bool (decide (j = L)) = .bool true := by rw [hjL]; simp
            have jlc : Value.bool (j == L) = .bool true := by rw [hjL]; simp
            have jl2 : ((j : Int) == (L : Int) + 1) = false := by rw [beq_eq_false_iff_ne]; omega
            have HJL := Lib.hid hjL
            clear hjL
            go_wp2_with fail
            refine (among_i S (Mo + 8 * j + 2) (some ⟨w12.heap.size + 1, 0, none⟩) 4 4 [1, 1, 1, 0] rfl _ (by repeat (first | exact HS12.out | refine Src.alloc ?_ _ | refine Src.setNew ?_ (by omega) _)) (by omega) (by exact rd_ints (by simp only [sz_alloc, sz_set]) [1, 1, 1, 0] _) (fun a ha => by cases ha; simp; omega) (by decide) (by decide)).mono ?_
            rintro e w13 ⟨y13, hy13, rfl, hs13, ho13⟩
            have hz13 := ho13.size
            (try simp only [sz_alloc, sz_set] at hz13)
            have hcw13 := fun o => World.cell?_of_block (a := ⟨w12.heap.size, o, none⟩) (ho13.block (w12.heap.size) (by first | omega | (simp only [sz_alloc, sz_set, sz_drew, sz_drewN]; omega) | (simp only [sz_alloc, sz_set, sz_drew, sz_drewN] at *; omega)) (by simp; omega)); have hfw13 := fun o => World.frozen?_of_block (a := ⟨w12.heap.size, o, none⟩) (ho13.block (w12.heap.size) (by first | omega | (simp only [sz_alloc, sz_set, sz_drew, sz_drewN]; omega) | (simp only [sz_alloc, sz_set, sz_drew, sz_drewN] at *; omega)) (by simp; omega)); have hlw13 : w12.heap.size < _ := Nat.lt_of_lt_of_le (m := _) (by first | omega | (simp only [sz_alloc, sz_set, sz_drew, sz_drewN]; omega) | (simp only [sz_alloc, sz_set, sz_drew, sz_drewN] at *; omega)) ho13.size
            have e13a : w13.cell? ⟨w12.heap.size, 0, none⟩ = some (.int .i64 ((v11 : Int))) := by go_simp
            have e13b : w13.cell? ⟨w12.heap.size, 1, none⟩ = some (.int .i64 (y12)) := by go_simp
            have e13f : w13.frozen? ⟨w12.heap.size, 0, none⟩ = false := by go_simp
            have e13g : w13.frozen? ⟨w12.heap.size, 1, none⟩ = false := by go_simp
            clear hcw13 hfw13
            have HO13 : Hid (OnlyB [S] wi w13) := Lib.hid (OnlyB.trans (by repeat (first | exact HO12.out | refine OnlyB.alloc ?_ _ | refine OnlyB.setNew ?_ (by omega) _)) ho13)
            have HS13 := Lib.hid hs13
            clear ho13 hs13
            have hd13 : 0 ≤ y13 ∧ y13 ≤ 1 := by simp at hy13; omega
            go_wp2_with fail
            refine (one_i S (Mo + 8 * j + 3) 8 8 rfl _ (by repeat (first | exact HS13.out | refine Src.alloc ?_ _ | refine Src.setNew ?_ (by omega) _)) (by omega) (by decide) (by decide)).mono ?_
            rintro e w14 ⟨b14, rfl, hs14, ho14⟩
            have hz14 := ho14.size
            (try simp only [sz_alloc, sz_set] at hz14)
            have hcw14 := fun o => World.cell?_of_block (a := ⟨w12.heap.size, o, none⟩) (ho14.block (w12.heap.size) (by first | omega | (simp only [sz_alloc, sz_set, sz_drew, sz_drewN]; omega) | (simp only [sz_alloc, sz_set, sz_drew, sz_drewN] at *; omega)) (by simp; omega)); have hfw14 := fun o => World.frozen?_of_block (a := ⟨w12.heap.size, o, none⟩) (ho14.block (w12.heap.size) (by first | omega | (simp only [sz_alloc, sz_set, sz_drew, sz_drewN]; omega) | (simp only [sz_alloc, sz_set, sz_drew, sz_drewN] at *; omega)) (by simp; omega)); have hlw14 : w12.heap.size < _ := Nat.lt_of_lt_of_le (m := _) (by first | omega | (simp only [sz_alloc, sz_set, sz_drew, sz_drewN]; omega) | (simp only [sz_alloc, sz_set, sz_drew, sz_drewN] at *; omega)) ho14.size
            have e14a : w14.cell? ⟨w12.heap.size, 0, none⟩ = some (.int .i64 ((v11 : Int))) := by go_simp
            have e14b : w14.cell? ⟨w12.heap.size, 1, none⟩ = some (.int .i64 (y13)) := by go_simp
            have e14f : w14.frozen? ⟨w12.heap.size, 0, none⟩ = false := by go_simp
            have e14g : w14.frozen? ⟨w12.heap.size, 1, none⟩ = false := by go_simp
            clear hcw14 hfw14
            have HO14 : Hid (OnlyB [S] wi w14) := Lib.hid (OnlyB.trans (by repeat (first | exact HO13.out | refine OnlyB.alloc ?_ _ | refine OnlyB.setNew ?_ (by omega) _)) ho14)
            have HS14 := Lib.hid hs14
            clear ho14 hs14
            cases b14 with
            | false =>
              have HMV : Hid (moveOk N L j ((v11 : Int), y13) = true) := Lib.hid (mv_ok (by omega) (by omega) (by omega) (by omega) (fun _ => by omega) (fun h => by have := HJL.out; omega))
              go_wp2_with (at_builtin; refine wpList_push (α := Int × Int) _ (by rfl) (.tmp 68) (.tmp 70) 97 (by rfl) (wo.heap.size) 99 (.agg #[.int .i64 0, .int .i64 0]) 16 Tryd.underlying97 infoMove rfl E j f _ [] (by rfl) (H2.out.onlyB (by repeat (first | exact HO14.out | refine OnlyB.alloc ?_ _ | refine OnlyB.setNew ?_ (by omega) _)) hSwo) (w14.heap.size) 1 (by rfl) ((v11 : Int), y13) [.int .i64 ((v11 : Int)), .int .i64 (y13)] [] ⟨rfl, rfl⟩ (new_cells (by first | rfl | simp [sz_set])) (fun u hu => by (simp at hu; rcases hu with rfl | rfl <;> rfl)) ⟨List.nodup_nil, fun g hg => by simp at hg⟩ (fun g hg => by simp at hg) (by omega) (by omega) (by first | omega | (simp only [sz_alloc, sz_set, sz_drew, sz_drewN]; omega) | (simp only [sz_alloc, sz_set, sz_drew, sz_drewN] at *; omega)) ?_
                           intro E2 d2 w9 hacc hgr hnew
                           have HO9 : Hid (OnlyB [S] wo w9) := Lib.hid (OnlyB.grown (OnlyB.trans H0.out (by repeat (first | exact HO14.out | refine OnlyB.alloc ?_ _ | refine OnlyB.setNew ?_ (by omega) _))) hgr (fun x hx => (H2.out.lt x hx).1))
                           have HS9 : Hid (Src w9 S (Mo + 8 * j + 3 + 1)) := Lib.hid (Src.keep (S := S) (by repeat (first | exact HS14.out | refine Src.alloc ?_ _ | refine Src.setNew ?_ (by omega) _)) (fun g' hg' => grown_block hgr (k := g') (by first | omega | (simp only [sz_alloc, sz_set, sz_drew, sz_drewN]; omega) | (simp only [sz_alloc, sz_set, sz_drew, sz_drewN] at *; omega)) (fun a ha e => by have := H2.out.lt a ha; omega)))
                           have HA9 := Lib.hid hacc
                           clear hacc hgr hnew)
              go_roundw
              case rel => exact ⟨j + 1, E2, d2, ys ++ [((v11 : Int), y13)], by omega, by first | rfl | simp, by go_num, Lib.hid HA9.out, Lib.hid (moves_snoc HYS.out (by rw [← H2.out.len, Nat.zero_add]; exact HMV.out)), Lib.hid (HS9.out.more (by omega)), HO9⟩
              case measure => simp [intOf]; omega
            | true =>
              go_wp2_with fail
              refine (pick_i S (Mo + 8 * j + 3 + 1) 2 2 rfl _ (by repeat (first | exact HS14.out | refine Src.alloc ?_ _ | refine Src.setNew ?_ (by omega) _)) (by omega) (by decide) (by decide)).mono ?_
              rintro e w15 ⟨v15, rfl, hv15, hs15, ho15⟩
              have hz15 := ho15.size
              (try simp only [sz_alloc, sz_set] at hz15)
              have hcw15 := fun o => World.cell?_of_block (a := ⟨w12.heap.size, o, none⟩) (ho15.block (w12.heap.size) (by first | omega | (simp only [sz_alloc, sz_set, sz_drew, sz_drewN]; omega) | (simp only [sz_alloc, sz_set, sz_drew, sz_drewN] at *; omega)) (by simp; omega)); have hfw15 := fun o => World.frozen?_of_block (a := ⟨w12.heap.size, o, none⟩) (ho15.block (w12.heap.size) (by first | omega | (simp only [sz_alloc, sz_set, sz_drew, sz_drewN]; omega) | (simp only [sz_alloc, sz_set, sz_drew, sz_drewN] at *; omega)) (by simp; omega)); have hlw15 : w12.heap.size < _ := Nat.lt_of_lt_of_le (m := _) (by first | omega | (simp only [sz_alloc, sz_set, sz_drew, sz_drewN]; omega) | (simp only [sz_alloc, sz_set, sz_drew, sz_drewN] at *; omega)) ho15.size
              have e15a : w15.cell? ⟨w12.heap.size, 0, none⟩ = some (.int .i64 ((v11 : Int))) := by go_simp
              have e15b : w15.cell? ⟨w12.heap.size, 1, none⟩ = some (.int .i64 (y13)) := by go_simp
              have e15f : w15.frozen? ⟨w12.heap.size, 0, none⟩ = false := by go_simp
              have e15g : w15.frozen? ⟨w12.heap.size, 1, none⟩ = false := by go_simp
              clear hcw15 hfw15
              have HO15 : Hid (OnlyB [S] wi w15) := Lib.hid (OnlyB.trans (by repeat (first | exact HO14.out | refine OnlyB.alloc ?_ _ | refine OnlyB.setNew ?_ (by omega) _)) ho15)
              have HS15 := Lib.hid hs15
              clear ho15 hs15
              obtain ⟨hwb15, hw15⟩ := wrap_v (z := -1 - (v15 : Int)) (by omega) (by omega) rfl
              have HMV : Hid (moveOk N L j (-1 - (v15 : Int), 0) = true) := Lib.hid (mv_stop hv15)
              go_wp2_with (at_builtin; refine wpList_push (α := Int × Int) _ (by rfl) (.tmp 68) (.tmp 70) 97 (by rfl) (wo.heap.size) 99 (.agg #[.int .i64 0, .int .i64 0]) 16 Tryd.underlying97 infoMove rfl E j f _ [] (by rfl) (H2.out.onlyB (by repeat (first | exact HO15.out | refine OnlyB.alloc ?_ _ | refine OnlyB.setNew ?_ (by omega) _)) hSwo) (w15.heap.size) 1 (by rfl) (-1 - (v15 : Int), 0) [.int .i64 (-1 - (v15 : Int)), .int .i64 (0)] [] ⟨rfl, rfl⟩ (new_cells (by first | rfl | simp [sz_set])) (fun u hu => by (simp at hu; rcases hu with rfl | rfl <;> rfl)) ⟨List.nodup_nil, fun g hg => by simp at hg⟩ (fun g hg => by simp at hg) (by omega) (by omega) (by first | omega | (simp only [sz_alloc, sz_set, sz_drew, sz_drewN]; omega) | (simp only [sz_alloc, sz_set, sz_drew, sz_drewN] at *; omega)) ?_
                           intro E2 d2 w9 hacc hgr hnew
                           have HO9 : Hid (OnlyB [S] wo w9) := Lib.hid (OnlyB.grown (OnlyB.trans H0.out (by repeat (first | exact HO15.out | refine OnlyB.alloc ?_ _ | refine OnlyB.setNew ?_ (by omega) _))) hgr (fun x hx => (H2.out.lt x hx).1))
                           have HS9 : Hid (Src w9 S (Mo + 8 * j + 3 + 2)) := Lib.hid (Src.keep (S := S) (by repeat (first | exact HS15.out | refine Src.alloc ?_ _ | refine Src.setNew ?_ (by omega) _)) (fun g' hg' => grown_block hgr (k := g') (by first | omega | (simp only [sz_alloc, sz_set, sz_drew, sz_drewN]; omega) | (simp only [sz_alloc, sz_set, sz_drew, sz_drewN] at *; omega)) (fun a ha e => by have := H2.out.lt a ha; omega)))
                           have HA9 := Lib.hid hacc
                           clear hacc hgr hnew)
              go_roundw
              case rel => exact ⟨j + 1, E2, d2, ys ++ [(-1 - (v15 : Int), 0)], by omega, by first | rfl | simp, by go_num, Lib.hid HA9.out, Lib.hid (moves_snoc HYS.out (by rw [← H2.out.len, Nat.zero_add]; exact HMV.out)), Lib.hid (HS9.out.more (by omega)), HO9⟩
              case measure => simp [intOf]; omega
          · have jl : ((j : Int) == (L : Int)) = false := by rw [beq_eq_false_iff_ne]; omega
            by_cases hjM : j = L + 1
            · have jl2 : Value.bool ((j : Int) == (L : Int) + 1) = .bool true := by rw [hjM]; simp
              have jl2a : Value.bool (decide ((j : Int) = (L : Int) + 1)) = .bool true := by rw [hjM]; simp
              have HJL := Lib.hid hjM
              clear hjL hjM
              go_wp2_with fail
              refine (among_i S (Mo + 8 * j + 2) (some ⟨w12.heap.size + 1, 0, none⟩) 3 3 [-1, -1, 0] rfl _ (by repeat (first | exact HS12.out | refine Src.alloc ?_ _ | refine Src.setNew ?_ (by omega) _)) (by omega) (by exact rd_ints (by simp only [sz_alloc, sz_set]) [-1, -1, 0] _) (fun a ha => by cases ha; simp; omega) (by decide) (by decide)).mono ?_
              rintro e w13 ⟨y13, hy13, rfl, hs13, ho13⟩
              have hz13 := ho13.size
              (try simp only [sz_alloc, sz_set] at hz13)
              have hcw13 := fun o => World.cell?_of_block (a := ⟨w12.heap.size, o, none⟩) (ho13.block (w12.heap.size) (by first | omega | (simp only [sz_alloc, sz_set, sz_drew, sz_drewN]; omega) | (simp only [sz_alloc, sz_set, sz_drew, sz_drewN] at *; omega)) (by simp; omega)); have hfw13 := fun o => World.frozen?_of_block (a := ⟨w12.heap.size, o, none⟩) (ho13.block (w12.heap.size) (by first | omega | (simp only [sz_alloc, sz_set, sz_drew, sz_drewN]; omega) | (simp only [sz_alloc, sz_set, sz_drew, sz_drewN] at *; omega)) (by simp; omega)); have hlw13 : w12.heap.size < _ := Nat.lt_of_lt_of_le (m := _) (by first | omega | (simp only [sz_alloc, sz_set, sz_drew, sz_drewN]; omega) | (simp only [sz_alloc, sz_set, sz_drew, sz_drewN] at *; omega)) ho13.size
              have e13a : w13.cell? ⟨w12.heap.size, 0, none⟩ = some (.int .i64 ((v11 : Int))) := by go_simp
              have e13b : w13.cell? ⟨w12.heap.size, 1, none⟩ = some (.int .i64 (y12)) := by go_simp
              have e13f : w13.frozen? ⟨w12.heap.size, 0, none⟩ = false := by go_simp
              have e13g : w13.frozen? ⟨w12.heap.size, 1, none⟩ = false := by go_simp
              clear hcw13 hfw13
              have HO13 : Hid (OnlyB [S] wi w13) := Lib.hid (OnlyB.trans (by repeat (first | exact HO12.out | refine OnlyB.alloc ?_ _ | refine OnlyB.setNew ?_ (by omega) _)) ho13)
              have HS13 := Lib.hid hs13
              clear ho13 hs13
              have hd13 : -1 ≤ y13 ∧ y13 ≤ 0 := by simp at hy13; omega
              go_wp2_with fail
              refine (one_i S (Mo + 8 * j + 3) 2 2 rfl _ (by repeat (first | exact HS13.out | refine Src.alloc ?_ _ | refine Src.setNew ?_ (by omega) _)) (by omega) (by decide) (by decide)).mono ?_
              rintro e w14 ⟨b14, rfl, hs14, ho14⟩
              have hz14 := ho14.size
              (try simp only [sz_alloc, sz_set] at hz14)
              have hcw14 := fun o => World.cell?_of_block (a := ⟨w12.heap.size, o, none⟩) (ho14.block (w12.heap.size) (by first | omega | (simp only [sz_alloc, sz_set, sz_drew, sz_drewN]; omega) | (simp only [sz_alloc, sz_set, sz_drew, sz_drewN] at *; omega)) (by simp; omega)); have hfw14 := fun o => World.frozen?_of_block (a := ⟨w12.heap.size, o, none⟩) (ho14.block (w12.heap.size) (by first | omega | (simp only [sz_alloc, sz_set, sz_drew, sz_drewN]; omega) | (simp only [sz_alloc, sz_set, sz_drew, sz_drewN] at *; omega)) (by simp; omega)); have hlw14 : w12.heap.size < _ := Nat.lt_of_lt_of_le (m := _) (by first | omega | (simp only [sz_alloc, sz_set, sz_drew, sz_drewN]; omega) | (simp only [sz_alloc, sz_set, sz_drew, sz_drewN] at *; omega)) ho14.size
              have e14a : w14.cell? ⟨w12.heap.size, 0, none⟩ = some (.int .i64 ((v11 : Int))) := by go_simp
              have e14b : w14.cell? ⟨w12.heap.size, 1, none⟩ = some (.int .i64 (y13)) := by go_simp
              have e14f : w14.frozen? ⟨w12.heap.size, 0, none⟩ = false := by go_simp
              have e14g : w14.frozen? ⟨w12.heap.size, 1, none⟩ = false := by go_simp
              clear hcw14 hfw14
              have HO14 : Hid (OnlyB [S] wi w14) := Lib.hid (OnlyB.trans (by repeat (first | exact HO13.out | refine OnlyB.alloc ?_ _ | refine OnlyB.setNew ?_ (by omega) _)) ho14)
              have HS14 := Lib.hid hs14
              clear ho14 hs14
              cases b14 with
              | false =>
                go_wp2_with fail
                refine (one_i S (Mo + 8 * j + 4) 8 8 rfl _ (by repeat (first | exact HS14.out | refine Src.alloc ?_ _ | refine Src.setNew ?_ (by omega) _)) (by omega) (by decide) (by decide)).mono ?_
                rintro e w15 ⟨b15, rfl, hs15, ho15⟩
                have hz15 := ho15.size
                (try simp only [sz_alloc, sz_set] at hz15)
                have hcw15 := fun o => World.cell?_of_block (a := ⟨w12.heap.size, o, none⟩) (ho15.block (w12.heap.size) (by first | omega | (simp only [sz_alloc, sz_set, sz_drew, sz_drewN]; omega) | (simp only [sz_alloc, sz_set, sz_drew, sz_drewN] at *; omega)) (by simp; omega)); have hfw15 := fun o => World.frozen?_of_block (a := ⟨w12.heap.size, o, none⟩) (ho15.block (w12.heap.size) (by first | omega | (simp only [sz_alloc, sz_set, sz_drew, sz_drewN]; omega) | (simp only [sz_alloc, sz_set, sz_drew, sz_drewN] at *; omega)) (by simp; omega)); have hlw15 : w12.heap.size < _ := Nat.lt_of_lt_of_le (m := _) (by first | omega | (simp only [sz_alloc, sz_set, sz_drew, sz_drewN]; omega) | (simp only [sz_alloc, sz_set, sz_drew, sz_drewN] at *; omega)) ho15.size
                have e15a : w15.cell? ⟨w12.heap.size, 0, none⟩ = some (.int .i64 ((v11 : Int))) := by go_simp
                have e15b : w15.cell? ⟨w12.heap.size, 1, none⟩ = some (.int .i64 (y13)) := by go_simp
                have e15f : w15.frozen? ⟨w12.heap.size, 0, none⟩ = false := by go_simp
                have e15g : w15.frozen? ⟨w12.heap.size, 1, none⟩ = false := by go_simp
                clear hcw15 hfw15
                have HO15 : Hid (OnlyB [S] wi w15) := Lib.hid (OnlyB.trans (by repeat (first | exact HO14.out | refine OnlyB.alloc ?_ _ | refine OnlyB.setNew ?_ (by omega) _)) ho15)
                have HS15 := Lib.hid hs15
                clear ho15 hs15
                cases b15 with
                | false =>
                  have HMV : Hid (moveOk N L j ((v11 : Int), y13) = true) := Lib.hid (mv_ok (by omega) (by omega) (by omega) (by omega) (fun h => by have := HJL.out; omega) (fun _ => by omega))
                  go_wp2_with (at_builtin; refine wpList_push (α := Int × Int) _ (by rfl) (.tmp 68) (.tmp 70) 97 (by rfl) (wo.heap.size) 99 (.agg #[.int .i64 0, .int .i64 0]) 16 Tryd.underlying97 infoMove rfl E j f _ [] (by rfl) (H2.out.onlyB (by repeat (first | exact HO15.out | refine OnlyB.alloc ?_ _ | refine OnlyB.setNew ?_ (by omega) _)) hSwo) (w15.heap.size) 1 (by rfl) ((v11 : Int), y13) [.int .i64 ((v11 : Int)), .int .i64 (y13)] [] ⟨rfl, rfl⟩ (new_cells (by first | rfl | simp [sz_set])) (fun u hu => by (simp at hu; rcases hu with rfl | rfl <;> rfl)) ⟨List.nodup_nil, fun g hg => by simp at hg⟩ (fun g hg => by simp at hg) (by omega) (by omega) (by first | omega | (simp only [sz_alloc, sz_set, sz_drew, sz_drewN]; omega) | (simp only [sz_alloc, sz_set, sz_drew, sz_drewN] at *; omega)) ?_
                               intro E2 d2 w9 hacc hgr hnew
                               have HO9 : Hid (OnlyB [S] wo w9) := Lib.hid (OnlyB.grown (OnlyB.trans H0.out (by repeat (first | exact HO15.out | refine OnlyB.alloc ?_ _ | refine OnlyB.setNew ?_ (by omega) _))) hgr (fun x hx => (H2.out.lt x hx).1))
                               have HS9 : Hid (Src w9 S (Mo + 8 * j + 4 + 1)) := Lib.hid (Src.keep (S := S) (by repeat (first | exact HS15.out | refine Src.alloc ?_ _ | refine Src.setNew ?_ (by omega) _)) (fun g' hg' => grown_block hgr (k := g') (by first | omega | (simp only [sz_alloc, sz_set, sz_drew, sz_drewN]; omega) | (simp only [sz_alloc, sz_set, sz_drew, sz_drewN] at *; omega)) (fun a ha e => by have := H2.out.lt a ha; omega)))
                               have HA9 := Lib.hid hacc
                               clear hacc hgr hnew)
                  go_roundw
                  case rel => exact ⟨j + 1, E2, d2, ys ++ [((v11 : Int), y13)], by omega, by first | rfl | simp, by go_num, Lib.hid HA9.out, Lib.hid (moves_snoc HYS.out (by rw [← H2.out.len, Nat.zero_add]; exact HMV.out)), Lib.hid (HS9.out.more (by omega)), HO9⟩
                  case measure => simp [intOf]; omega
                | true =>
                  go_wp2_with fail
                  refine (pick_i S (Mo + 8 * j + 4 + 1) 2 2 rfl _ (by repeat (first | exact HS15.out | refine Src.alloc ?_ _ | refine Src.setNew ?_ (by omega) _)) (by omega) (by decide) (by decide)).mono ?_
                  rintro e w16 ⟨v16, rfl, hv16, hs16, ho16⟩
                  have hz16 := ho16.size
                  (try simp only [sz_alloc, sz_set] at hz16)
                  have hcw16 := fun o => World.cell?_of_block (a := ⟨w12.heap.size, o, none⟩) (ho16.block (w12.heap.size) (by first | omega | (simp only [sz_alloc, sz_set, sz_drew, sz_drewN]; omega) | (simp only [sz_alloc, sz_set, sz_drew, sz_drewN] at *; omega)) (by simp; omega)); have hfw16 := fun o => World.frozen?_of_block (a := ⟨w12.heap.size, o, none⟩) (ho16.block (w12.heap.size) (by first | omega | (simp only [sz_alloc, sz_set, sz_drew, sz_drewN]; omega) | (simp only [sz_alloc, sz_set, sz_drew, sz_drewN] at *; omega)) (by simp; omega)); have hlw16 : w12.heap.size < _ := Nat.lt_of_lt_of_le (m := _) (by first | omega | (simp only [sz_alloc, sz_set, sz_drew, sz_drewN]; omega) | (simp only [sz_alloc, sz_set, sz_drew, sz_drewN] at *; omega)) ho16.size
                  have e16a : w16.cell? ⟨w12.heap.size, 0, none⟩ = some (.int .i64 ((v11 : Int))) := by go_simp
                  have e16b : w16.cell? ⟨w12.heap.size, 1, none⟩ = some (.int .i64 (y13)) := by go_simp
                  have e16f : w16.frozen? ⟨w12.heap.size, 0, none⟩ = false := by go_simp
                  have e16g : w16.frozen? ⟨w12.heap.size, 1, none⟩ = false := by go_simp
                  clear hcw16 hfw16
                  have HO16 : Hid (OnlyB [S] wi w16) := Lib.hid (OnlyB.trans (by repeat (first | exact HO15.out | refine OnlyB.alloc ?_ _ | refine OnlyB.setNew ?_ (by omega) _)) ho16)
                  have HS16 := Lib.hid hs16
                  clear ho16 hs16
                  obtain ⟨hwb16, hw16⟩ := wrap_v (z := -1 - (v16 : Int)) (by omega) (by omega) rfl
                  have HMV : Hid (moveOk N L j (-1 - (v16 : Int), 0) = true) := Lib.hid (mv_stop hv16)
                  go_wp2_with (at_builtin; refine wpList_push (α := Int × Int) _ (by rfl) (.tmp 68) (.tmp 70) 97 (by rfl) (wo.heap.size) 99 (.agg #[.int .i64 0, .int .i64 0]) 16 Tryd.underlying97 infoMove rfl E j f _ [] (by rfl) (H2.out.onlyB (by repeat (first | exact HO16.out | refine OnlyB.alloc ?_ _ | refine OnlyB.setNew ?_ (by omega) _)) hSwo) (w16.heap.size) 1 (by rfl) (-1 - (v16 : Int), 0) [.int .i64 (-1 - (v16 : Int)), .int .i64 (0)] [] ⟨rfl, rfl⟩ (new_cells (by first | rfl | simp [sz_set])) (fun u hu => by (simp at hu; rcases hu with rfl | rfl <;> rfl)) ⟨List.nodup_nil, fun g hg => by simp at hg⟩ (fun g hg => by simp at hg) (by omega) (by omega) (by first | omega | (simp only [sz_alloc, sz_set, sz_drew, sz_drewN]; omega) | (simp only [sz_alloc, sz_set, sz_drew, sz_drewN] at *; omega)) ?_
                               intro E2 d2 w9 hacc hgr hnew
                               have HO9 : Hid (OnlyB [S] wo w9) := Lib.hid (OnlyB.grown (OnlyB.trans H0.out (by repeat (first | exact HO16.out | refine OnlyB.alloc ?_ _ | refine OnlyB.setNew ?_ (by omega) _))) hgr (fun x hx => (H2.out.lt x hx).1))
                               have HS9 : Hid (Src w9 S (Mo + 8 * j + 4 + 2)) := Lib.hid (Src.keep (S := S) (by repeat (first | exact HS16.out | refine Src.alloc ?_ _ | refine Src.setNew ?_ (by omega) _)) (fun g' hg' => grown_block hgr (k := g') (by first | omega | (simp only [sz_alloc, sz_set, sz_drew, sz_drewN]; omega) | (simp only [sz_alloc, sz_set, sz_drew, sz_drewN] at *; omega)) (fun a ha e => by have := H2.out.lt a ha; omega)))
                               have HA9 := Lib.hid hacc
                               clear hacc hgr hnew)
                  go_roundw
                  case rel => exact ⟨j + 1, E2, d2, ys ++ [(-1 - (v16 : Int), 0)], by omega, by first | rfl | simp, by go_num, Lib.hid HA9.out, Lib.hid (moves_snoc HYS.out (by rw [← H2.out.len, Nat.zero_add]; exact HMV.out)), Lib.hid (HS9.out.more (by omega)), HO9⟩
                  case measure => simp [intOf]; omega
              | true =>
                go_wp2_with fail
                refine (pick_i S (Mo + 8 * j + 4) 2 2 rfl _ (by repeat (first | exact HS14.out | refine Src.alloc ?_ _ | refine Src.setNew ?_ (by omega) _)) (by omega) (by decide) (by decide)).mono ?_
                rintro e w15 ⟨v15, rfl, hv15, hs15, ho15⟩
                have hz15 := ho15.size
                (try simp only [sz_alloc, sz_set] at hz15)
                have hcw15 := fun o => World.cell?_of_block (a := ⟨w12.heap.size, o, none⟩) (ho15.block (w12.heap.size) (by first | omega | (simp only [sz_alloc, sz_set, sz_drew, sz_drewN]; omega) | (simp only [sz_alloc, sz_set, sz_drew, sz_drewN] at *; omega)) (by simp; omega)); have hfw15 := fun o => World.frozen?_of_block (a := ⟨w12.heap.size, o, none⟩) (ho15.block (w12.heap.size) (by first | omega | (simp only [sz_alloc, sz_set, sz_drew, sz_drewN]; omega) | (simp only [sz_alloc, sz_set, sz_drew, sz_drewN] at *; omega)) (by simp; omega)); have hlw15 : w12.heap.size < _ := Nat.lt_of_lt_of_le (m := _) (by first | omega | (simp only [sz_alloc, sz_set, sz_drew, sz_drewN]; omega) | (simp only [sz_alloc, sz_set, sz_drew, sz_drewN] at *; omega)) ho15.size
                have e15a : w15.cell? ⟨w12.heap.size, 0, none⟩ = some (.int .i64 ((v11 : Int))) := by go_simp
                have e15b : w15.cell? ⟨w12.heap.size, 1, none⟩ = some (.int .i64 (y13)) := by go_simp
                have e15f : w15.frozen? ⟨w12.heap.size, 0, none⟩ = false := by go_simp
                have e15g : w15.frozen? ⟨w12.heap.size, 1, none⟩ = false := by go_simp
                clear hcw15 hfw15
                have HO15 : Hid (OnlyB [S] wi w15) := Lib.hid (OnlyB.trans (by repeat (first | exact HO14.out | refine OnlyB.alloc ?_ _ | refine OnlyB.setNew ?_ (by omega) _)) ho15)
                have HS15 := Lib.hid hs15
                clear ho15 hs15
                obtain ⟨hwb15, hw15⟩ := wrap_v (z := -1 - (v15 : Int)) (by omega) (by omega) rfl
                go_wp2_with fail
                refine (one_i S (Mo + 8 * j + 5) 8 8 rfl _ (by repeat (first | exact HS15.out | refine Src.alloc ?_ _ | refine Src.setNew ?_ (by omega) _)) (by omega) (by decide) (by decide)).mono ?_
                rintro e w16 ⟨b16, rfl, hs16, ho16⟩
                have hz16 := ho16.size
                (try simp only [sz_alloc, sz_set] at hz16)
                have hcw16 := fun o => World.cell?_of_block (a := ⟨w12.heap.size, o, none⟩) (ho16.block (w12.heap.size) (by first | omega | (simp only [sz_alloc, sz_set, sz_drew, sz_drewN]; omega) | (simp only [sz_alloc, sz_set, sz_drew, sz_drewN] at *; omega)) (by simp; omega)); have hfw16 := fun o => World.frozen?_of_block (a := ⟨w12.heap.size, o, none⟩) (ho16.block (w12.heap.size) (by first | omega | (simp only [sz_alloc, sz_set, sz_drew, sz_drewN]; omega) | (simp only [sz_alloc, sz_set, sz_drew, sz_drewN] at *; omega)) (by simp; omega)); have hlw16 : w12.heap.size < _ := Nat.lt_of_lt_of_le (m := _) (by first | omega | (simp only [sz_alloc, sz_set, sz_drew, sz_drewN]; omega) | (simp only [sz_alloc, sz_set, sz_drew, sz_drewN] at *; omega)) ho16.size
                have e16a : w16.cell? ⟨w12.heap.size, 0, none⟩ = some (.int .i64 (-1 - (v15 : Int))) := by go_simp
                have e16b : w16.cell? ⟨w12.heap.size, 1, none⟩ = some (.int .i64 (0)) := by go_simp
                have e16f : w16.frozen? ⟨w12.heap.size, 0, none⟩ = false := by go_simp
                have e16g : w16.frozen? ⟨w12.heap.size, 1, none⟩ = false := by go_simp
                clear hcw16 hfw16
                have HO16 : Hid (OnlyB [S] wi w16) := Lib.hid (OnlyB.trans (by repeat (first | exact HO15.out | refine OnlyB.alloc ?_ _ | refine OnlyB.setNew ?_ (by omega) _)) ho16)
                have HS16 := Lib.hid hs16
                clear ho16 hs16
                cases b16 with
                | false =>
                  have HMV : Hid (moveOk N L j (-1 - (v15 : Int), 0) = true) := Lib.hid (mv_stop hv15)
                  go_wp2_with (at_builtin; refine wpList_push (α := Int × Int) _ (by rfl) (.tmp 68) (.tmp 70) 97 (by rfl) (wo.heap.size) 99 (.agg #[.int .i64 0, .int .i64 0]) 16 Tryd.underlying97 infoMove rfl E j f _ [] (by rfl) (H2.out.onlyB (by repeat (first | exact HO16.out | refine OnlyB.alloc ?_ _ | refine OnlyB.setNew ?_ (by omega) _)) hSwo) (w16.heap.size) 1 (by rfl) (-1 - (v15 : Int), 0) [.int .i64 (-1 - (v15 : Int)), .int .i64 (0)] [] ⟨rfl, rfl⟩ (new_cells (by first | rfl | simp [sz_set])) (fun u hu => by (simp at hu; rcases hu with rfl | rfl <;> rfl)) ⟨List.nodup_nil, fun g hg => by simp at hg⟩ (fun g hg => by simp at hg) (by omega) (by omega) (by first | omega | (simp only [sz_alloc, sz_set, sz_drew, sz_drewN]; omega) | (simp only [sz_alloc, sz_set, sz_drew, sz_drewN] at *; omega)) ?_
                               intro E2 d2 w9 hacc hgr hnew
                               have HO9 : Hid (OnlyB [S] wo w9) := Lib.hid (OnlyB.grown (OnlyB.trans H0.out (by repeat (first | exact HO16.out | refine OnlyB.alloc ?_ _ | refine OnlyB.setNew ?_ (by omega) _))) hgr (fun x hx => (H2.out.lt x hx).1))
                               have HS9 : Hid (Src w9 S (Mo + 8 * j + 5 + 1)) := Lib.hid (Src.keep (S := S) (by repeat (first | exact HS16.out | refine Src.alloc ?_ _ | refine Src.setNew ?_ (by omega) _)) (fun g' hg' => grown_block hgr (k := g') (by first | omega | (simp only [sz_alloc, sz_set, sz_drew, sz_drewN]; omega) | (simp only [sz_alloc, sz_set, sz_drew, sz_drewN] at *; omega)) (fun a ha e => by have := H2.out.lt a ha; omega)))
                               have HA9 := Lib.hid hacc
                               clear hacc hgr hnew)
                  go_roundw
                  case rel => exact ⟨j + 1, E2, d2, ys ++ [(-1 - (v15 : Int), 0)], by omega, by first | rfl | simp, by go_num, Lib.hid HA9.out, Lib.hid (moves_snoc HYS.out (by rw [← H2.out.len, Nat.zero_add]; exact HMV.out)), Lib.hid (HS9.out.more (by omega)), HO9⟩
                  case measure => simp [intOf]; omega
                | true =>
                  go_wp2_with fail
                  refine (pick_i S (Mo + 8 * j + 5 + 1) 2 2 rfl _ (by repeat (first | exact HS16.out | refine Src.alloc ?_ _ | refine Src.setNew ?_ (by omega) _)) (by omega) (by decide) (by decide)).mono ?_
                  rintro e w17 ⟨v17, rfl, hv17, hs17, ho17⟩
                  have hz17 := ho17.size
                  (try simp only [sz_alloc, sz_set] at hz17)
                  have hcw17 := fun o => World.cell?_of_block (a := ⟨w12.heap.size, o, none⟩) (ho17.block (w12.heap.size) (by first | omega | (simp only [sz_alloc, sz_set, sz_drew, sz_drewN]; omega) | (simp only [sz_alloc, sz_set, sz_drew, sz_drewN] at *; omega)) (by simp; omega)); have hfw17 := fun o => World.frozen?_of_block (a := ⟨w12.heap.size, o, none⟩) (ho17.block (w12.heap.size) (by first | omega | (simp only [sz_alloc, sz_set, sz_drew, sz_drewN]; omega) | (simp only [sz_alloc, sz_set, sz_drew, sz_drewN] at *; omega)) (by simp; omega)); have hlw17 : w12.heap.size < _ := Nat.lt_of_lt_of_le (m := _) (by first | omega | (simp only [sz_alloc, sz_set, sz_drew, sz_drewN]; omega) | (simp only [sz_alloc, sz_set, sz_drew, sz_drewN] at *; omega)) ho17.size
                  have e17a : w17.cell? ⟨w12.heap.size, 0, none⟩ = some (.int .i64 (-1 - (v15 : Int))) := by go_simp
                  have e17b : w17.cell? ⟨w12.heap.size, 1, none⟩ = some (.int .i64 (0)) := by go_simp
                  have e17f : w17.frozen? ⟨w12.heap.size, 0, none⟩ = false := by go_simp
                  have e17g : w17.frozen? ⟨w12.heap.size, 1, none⟩ = false := by go_simp
                  clear hcw17 hfw17
                  have HO17 : Hid (OnlyB [S] wi w17) := Lib.hid (OnlyB.trans (by repeat (first | exact HO16.out | refine OnlyB.alloc ?_ _ | refine OnlyB.setNew ?_ (by omega) _)) ho17)
                  have HS17 := Lib.hid hs17
                  clear ho17 hs17
                  obtain ⟨hwb17, hw17⟩ := wrap_v (z := -1 - (v17 : Int)) (by omega) (by omega) rfl
                  have HMV : Hid (moveOk N L j (-1 - (v17 : Int), 0) = true) := Lib.hid (mv_stop hv17)
                  go_wp2_with (at_builtin; refine wpList_push (α := Int × Int) _ (by rfl) (.tmp 68) (.tmp 70) 97 (by rfl) (wo.heap.size) 99 (.agg #[.int .i64 0, .int .i64 0]) 16 Tryd.underlying97 infoMove rfl E j f _ [] (by rfl) (H2.out.onlyB (by repeat (first | exact HO17.out | refine OnlyB.alloc ?_ _ | refine OnlyB.setNew ?_ (by omega) _)) hSwo) (w17.heap.size) 1 (by rfl) (-1 - (v17 : Int), 0) [.int .i64 (-1 - (v17 : Int)), .int .i64 (0)] [] ⟨rfl, rfl⟩ (new_cells (by first | rfl | simp [sz_set])) (fun u hu => by (simp at hu; rcases hu with rfl | rfl <;> rfl)) ⟨List.nodup_nil, fun g hg => by simp at hg⟩ (fun g hg => by simp at hg) (by omega) (by omega) (by first | omega | (simp only [sz_alloc, sz_set, sz_drew, sz_drewN]; omega) | (simp only [sz_alloc, sz_set, sz_drew, sz_drewN] at *; omega)) ?_
                               intro E2 d2 w9 hacc hgr hnew
                               have HO9 : Hid (OnlyB [S] wo w9) := Lib.hid (OnlyB.grown (OnlyB.trans H0.out (by repeat (first | exact HO17.out | refine OnlyB.alloc ?_ _ | refine OnlyB.setNew ?_ (by omega) _))) hgr (fun x hx => (H2.out.lt x hx).1))
                               have HS9 : Hid (Src w9 S (Mo + 8 * j + 5 + 2)) := Lib.hid (Src.keep (S := S) (by repeat (first | exact HS17.out | refine Src.alloc ?_ _ | refine Src.setNew ?_ (by omega) _)) (fun g' hg' => grown_block hgr (k := g') (by first | omega | (simp only [sz_alloc, sz_set, sz_drew, sz_drewN]; omega) | (simp only [sz_alloc, sz_set, sz_drew, sz_drewN] at *; omega)) (fun a ha e => by have := H2.out.lt a ha; omega)))
                               have HA9 := Lib.hid hacc
                               clear hacc hgr hnew)
                  go_roundw
                  case rel => exact ⟨j + 1, E2, d2, ys ++ [(-1 - (v17 : Int), 0)], by omega, by first | rfl | simp, by go_num, Lib.hid HA9.out, Lib.hid (moves_snoc HYS.out (by rw [← H2.out.len, Nat.zero_add]; exact HMV.out)), Lib.hid (HS9.out.more (by omega)), HO9⟩
                  case measure => simp [intOf]; omega
            · have jl2 : ((j : Int) == (L : Int) + 1) = false := by rw [beq_eq_false_iff_ne]; omega
              have HJL := Lib.hid (And.intro hjL hjM)
              clear hjL hjM
              go_wp2_with fail
              refine (one_i S (Mo + 8 * j + 2) 8 8 rfl _ (by repeat (first | exact HS12.out | refine Src.alloc ?_ _ | refine Src.setNew ?_ (by omega) _)) (by omega) (by decide) (by decide)).mono ?_
              rintro e w13 ⟨b13, rfl, hs13, ho13⟩
              have hz13 := ho13.size
              (try simp only [sz_alloc, sz_set] at hz13)
              have hcw13 := fun o => World.cell?_of_block (a := ⟨w12.heap.size, o, none⟩) (ho13.block (w12.heap.size) (by first | omega | (simp only [sz_alloc, sz_set, sz_drew, sz_drewN]; omega) | (simp only [sz_alloc, sz_set, sz_drew, sz_drewN] at *; omega)) (by simp; omega)); have hfw13 := fun o => World.frozen?_of_block (a := ⟨w12.heap.size, o, none⟩) (ho13.block (w12.heap.size) (by first | omega | (simp only [sz_alloc, sz_set, sz_drew, sz_drewN]; omega) | (simp only [sz_alloc, sz_set, sz_drew, sz_drewN] at *; omega)) (by simp; omega)); have hlw13 : w12.heap.size < _ := Nat.lt_of_lt_of_le (m := _) (by first | omega | (simp only [sz_alloc, sz_set, sz_drew, sz_drewN]; omega) | (simp only [sz_alloc, sz_set, sz_drew, sz_drewN] at *; omega)) ho13.size
              have e13a : w13.cell? ⟨w12.heap.size, 0, none⟩ = some (.int .i64 ((v11 : Int))) := by go_simp
              have e13b : w13.cell? ⟨w12.heap.size, 1, none⟩ = some (.int .i64 (y12)) := by go_simp
              have e13f : w13.frozen? ⟨w12.heap.size, 0, none⟩ = false := by go_simp
              have e13g : w13.frozen? ⟨w12.heap.size, 1, none⟩ = false := by go_simp
              clear hcw13 hfw13
              have HO13 : Hid (OnlyB [S] wi w13) := Lib.hid (OnlyB.trans (by repeat (first | exact HO12.out | refine OnlyB.alloc ?_ _ | refine OnlyB.setNew ?_ (by omega) _)) ho13)
              have HS13 := Lib.hid hs13
              clear ho13 hs13
              cases b13 with
              | false =>
                have HMV : Hid (moveOk N L j ((v11 : Int), y12) = true) := Lib.hid (mv_ok (by omega) (by omega) (by omega) (by omega) (fun h => by have := HJL.out.1; omega) (fun h => by have := HJL.out.2; omega))
                go_wp2_with (at_builtin; refine wpList_push (α := Int × Int) _ (by rfl) (.tmp 68) (.tmp 70) 97 (by rfl) (wo.heap.size) 99 (.agg #[.int .i64 0, .int .i64 0]) 16 Tryd.underlying97 infoMove rfl E j f _ [] (by rfl) (H2.out.onlyB (by repeat (first | exact HO13.out | refine OnlyB.alloc ?_ _ | refine OnlyB.setNew ?_ (by omega) _)) hSwo) (w13.heap.size) 1 (by rfl) ((v11 : Int), y12) [.int .i64 ((v11 : Int)), .int .i64 (y12)] [] ⟨rfl, rfl⟩ (new_cells (by first | rfl | simp [sz_set])) (fun u hu => by (simp at hu; rcases hu with rfl | rfl <;> rfl)) ⟨List.nodup_nil, fun g hg => by simp at hg⟩ (fun g hg => by simp at hg) (by omega) (by omega) (by first | omega | (simp only [sz_alloc, sz_set, sz_drew, sz_drewN]; omega) | (simp only [sz_alloc, sz_set, sz_drew, sz_drewN] at *; omega)) ?_
                             intro E2 d2 w9 hacc hgr hnew
                             have HO9 : Hid (OnlyB [S] wo w9) := Lib.hid (OnlyB.grown (OnlyB.trans H0.out (by repeat (first | exact HO13.out | refine OnlyB.alloc ?_ _ | refine OnlyB.setNew ?_ (by omega) _))) hgr (fun x hx => (H2.out.lt x hx).1))
                             have HS9 : Hid (Src w9 S (Mo + 8 * j + 2 + 1)) := Lib.hid (Src.keep (S := S) (by repeat (first | exact HS13.out | refine Src.alloc ?_ _ | refine Src.setNew ?_ (by omega) _)) (fun g' hg' => grown_block hgr (k := g') (by first | omega | (simp only [sz_alloc, sz_set, sz_drew, sz_drewN]; omega) | (simp only [sz_alloc, sz_set, sz_drew, sz_drewN] at *; omega)) (fun a ha e => by have := H2.out.lt a ha; omega)))
                             have HA9 := Lib.hid hacc
                             clear hacc hgr hnew)
                go_roundw
                case rel => exact ⟨j + 1, E2, d2, ys ++ [((v11 : Int), y12)], by omega, by first | rfl | simp, by go_num, Lib.hid HA9.out, Lib.hid (moves_snoc HYS.out (by rw [← H2.out.len, Nat.zero_add]; exact HMV.out)), Lib.hid (HS9.out.more (by omega)), HO9⟩
                case measure => simp [intOf]; omega
              | true =>
                go_wp2_with fail
                refine (pick_i S (Mo + 8 * j + 2 + 1) 2 2 rfl _ (by repeat (first | exact HS13.out | refine Src.alloc ?_ _ | refine Src.setNew ?_ (by omega) _)) (by omega) (by decide) (by decide)).mono ?_
                rintro e w14 ⟨v14, rfl, hv14, hs14, ho14⟩
                have hz14 := ho14.size
                (try simp only [sz_alloc, sz_set] at hz14)
                have hcw14 := fun o => World.cell?_of_block (a := ⟨w12.heap.size, o, none⟩) (ho14.block (w12.heap.size) (by first | omega | (simp only [sz_alloc, sz_set, sz_drew, sz_drewN]; omega) | (simp only [sz_alloc, sz_set, sz_drew, sz_drewN] at *; omega)) (by simp; omega)); have hfw14 := fun o => World.frozen?_of_block (a := ⟨w12.heap.size, o, none⟩) (ho14.block (w12.heap.size) (by first | omega | (simp only [sz_alloc, sz_set, sz_drew, sz_drewN]; omega) | (simp only [sz_alloc, sz_set, sz_drew, sz_drewN] at *; omega)) (by simp; omega)); have hlw14 : w12.heap.size < _ := Nat.lt_of_lt_of_le (m := _) (by first | omega | (simp only [sz_alloc, sz_set, sz_drew, sz_drewN]; omega) | (simp only [sz_alloc, sz_set, sz_drew, sz_drewN] at *; omega)) ho14.size
                have e14a : w14.cell? ⟨w12.heap.size, 0, none⟩ = some (.int .i64 ((v11 : Int))) := by go_simp
                have e14b : w14.cell? ⟨w12.heap.size, 1, none⟩ = some (.int .i64 (y12)) := by go_simp
                have e14f : w14.frozen? ⟨w12.heap.size, 0, none⟩ = false := by go_simp
                have e14g : w14.frozen? ⟨w12.heap.size, 1, none⟩ = false := by go_simp
                clear hcw14 hfw14
                have HO14 : Hid (OnlyB [S] wi w14) := Lib.hid (OnlyB.trans (by repeat (first | exact HO13.out | refine OnlyB.alloc ?_ _ | refine OnlyB.setNew ?_ (by omega) _)) ho14)
                have HS14 := Lib.hid hs14
                clear ho14 hs14
                obtain ⟨hwb14, hw14⟩ := wrap_v (z := -1 - (v14 : Int)) (by omega) (by omega) rfl
                have HMV : Hid (moveOk N L j (-1 - (v14 : Int), 0) = true) := Lib.hid (mv_stop hv14)
                go_wp2_with (at_builtin; refine wpList_push (α := Int × Int) _ (by rfl) (.tmp 68) (.tmp 70) 97 (by rfl) (wo.heap.size) 99 (.agg #[.int .i64 0, .int .i64 0]) 16 Tryd.underlying97 infoMove rfl E j f _ [] (by rfl) (H2.out.onlyB (by repeat (first | exact HO14.out | refine OnlyB.alloc ?_ _ | refine OnlyB.setNew ?_ (by omega) _)) hSwo) (w14.heap.size) 1 (by rfl) (-1 - (v14 : Int), 0) [.int .i64 (-1 - (v14 : Int)), .int .i64 (0)] [] ⟨rfl, rfl⟩ (new_cells (by first | rfl | simp [sz_set])) (fun u hu => by (simp at hu; rcases hu with rfl | rfl <;> rfl)) ⟨List.nodup_nil, fun g hg => by simp at hg⟩ (fun g hg => by simp at hg) (by omega) (by omega) (by first | omega | (simp only [sz_alloc, sz_set, sz_drew, sz_drewN]; omega) | (simp only [sz_alloc, sz_set, sz_drew, sz_drewN] at *; omega)) ?_
                             intro E2 d2 w9 hacc hgr hnew
                             have HO9 : Hid (OnlyB [S] wo w9) := Lib.hid (OnlyB.grown (OnlyB.trans H0.out (by repeat (first | exact HO14.out | refine OnlyB.alloc ?_ _ | refine OnlyB.setNew ?_ (by omega) _))) hgr (fun x hx => (H2.out.lt x hx).1))
                             have HS9 : Hid (Src w9 S (Mo + 8 * j + 2 + 2)) := Lib.hid (Src.keep (S := S) (by repeat (first | exact HS14.out | refine Src.alloc ?_ _ | refine Src.setNew ?_ (by omega) _)) (fun g' hg' => grown_block hgr (k := g') (by first | omega | (simp only [sz_alloc, sz_set, sz_drew, sz_drewN]; omega) | (simp only [sz_alloc, sz_set, sz_drew, sz_drewN] at *; omega)) (fun a ha e => by have := H2.out.lt a ha; omega)))
                             have HA9 := Lib.hid hacc
                             clear hacc hgr hnew)
                go_roundw
                case rel => exact ⟨j + 1, E2, d2, ys ++ [(-1 - (v14 : Int), 0)], by omega, by first | rfl | simp, by go_num, Lib.hid HA9.out, Lib.hid (moves_snoc HYS.out (by rw [← H2.out.len, Nat.zero_add]; exact HMV.out)), Lib.hid (HS9.out.more (by omega)), HO9⟩
                case measure => simp [intOf]; omega
        · obtain rfl : j = L + 2 := by omega
          have j3 : ¬ ((L + 2 : Nat) : Int) < (L : Int) + 2 := by omega
          have q0 : wi.heap[g]? = some (.cells #[.int .i64 L, .int .i64 v2, .slice D k m] 40 (0, 0)) := (H0.out.block g hgr0 (by simp; omega)).trans HB.out
          have k2 : wi.cell? ⟨g, 2, none⟩ = some (.slice D k m) := cell_of_row wi _ 2 _ _ (0, 0) q0
          have hgi : g < wi.heap.size := by omega
          have hRi : wi.heap[w.heap.size]? = some (.cells #[.int .i64 0, .int .i64 0, .slice none 0 0] 40 (0, 0)) := (H0.out.block _ (by omega) (by simp; omega)).trans HR.out
          have Q0 := Lib.hid q0
          have HRI := Lib.hid hRi
          have HAi := Lib.hid (HA.out.onlyB H0.out (by omega))
          have HRK : Hid (rowOk N L ys = true) := Lib.hid (by
            unfold rowOk
            rw [HYS.out, Bool.and_true]
            apply decide_eq_true
            rw [← H2.out.len]
            rfl)
          clear q0 hRi
          go_wp2_with (obtain ⟨b2, hy, hf⟩ := (H2.out.alloc (.cells #[.slice E (L + 2) f] 97)).row (by omega)
                       at_builtin; refine wpList_push (α := List (Int × Int)) _ rfl (.tmp 73) (.tmp 75) 38 rfl (g + 1) 97 (.slice none 0 0) 24 Tryd.underlying38 infoMoveSS rfl D k m _ bs rfl (HAi.out.alloc _) wi.heap.size 1 rfl ys [.slice E (L + 2) f] b2 hy (new_cells (by first | rfl | simp [sz_set])) (fun u hu => by (simp at hu; subst hu; rfl)) ⟨hf.1, fun g' hg' => ⟨by have := (hf.2 g' hg').1; omega, (hf.2 g' hg').2⟩⟩ (HA.out.apart hf (Nat.le_refl _)) (by omega) (by omega) (by first | omega | (simp only [sz_alloc, sz_set, sz_drew, sz_drewN]; omega) | (simp only [sz_alloc, sz_set, sz_drew, sz_drewN] at *; omega)) ?_
                       intro D1 d1 w9 hacc hgr hnew
                       have hB1 := (HAi.out.alloc (.cells #[.slice E (L + 2) f] 97)).box hgr (alloc_block Q0.out hgi) (by omega)
                       have HR9 := Lib.hid ((HAi.out.alloc (.cells #[.slice E (L + 2) f] 97)).box hgr (alloc_block HRI.out (by omega)) (by omega))
                       have f6 : w9.frozen? ⟨g, 2, none⟩ = false := blk_free hB1
                       have k6 : w9.cell? ⟨g, 2, none⟩ = some (.slice D k m) := cell_of_row w9 _ 2 _ _ (0, 0) hB1
                       have hg6 : g < w9.heap.size := (Array.getElem?_eq_some_iff.1 hB1).1
                       have HB1 := Lib.hid hB1
                       have HO9 : Hid (OnlyB [S] w w9) := Lib.hid (OnlyB.grown ((OnlyB.trans HOr.out H0.out).alloc _) hgr (fun x hx => by have := HAi.out.lt x hx; omega))
                       have HS9 : Hid (Src w9 S (Mo + 8 * (L + 2))) := Lib.hid (Src.keep (HSi.out.alloc _) (fun g' hg' => grown_block hgr (k := g') (by first | omega | (simp only [sz_alloc, sz_set, sz_drew, sz_drewN]; omega) | (simp only [sz_alloc, sz_set, sz_drew, sz_drewN] at *; omega)) (fun a ha e => by have := HAi.out.lt a ha; omega)))
                       have HA9 := Lib.hid hacc
                       clear hacc hgr hnew hy hf hB1)
          go_roundw
          case rel =>
            refine ⟨k + 1, D1, d1, bs ++ b2, rows ++ [ys], by omega, by go_num, Lib.hid (blk_set HB1.out _), Lib.hid ((Below.heap_setCell _ _ _ _ (by simp only; omega)).trans HR9.out), Lib.hid ?_, Lib.hid (by rw [List.all_append, HRW.out]; simp [HRK.out]), Lib.hid ((HS9.out.setNew hSg _).more (by have := HMO.out; omega)), Lib.hid (HO9.out.setNew (by omega) _), (by first | omega | (simp only [sz_alloc, sz_set, sz_drew, sz_drewN]; omega) | (simp only [sz_alloc, sz_set, sz_drew, sz_drewN] at *; omega))⟩
            exact HA9.out.setCell (fun a ha => by have := HA9.out.lt a ha; simp only; omega) (fun hm => by have := (HA9.out.fresh.2 _ hm).1; simp only at this; omega) _
          case measure => simp [intOf]; omega
    · obtain rfl : k = N := by omega
      have i3 : ¬ (k : Int) < (k : Int) := by omega
      obtain ⟨b2, o2, f2, -⟩ := HA.out.own
      have hlen : rows.length = k := HA.out.len.symm
      have k0 : wo.cell? ⟨g, 0, none⟩ = some (.int .i64 L) := cell_of_row wo _ 0 _ _ (0, 0) HB.out
      have k1 : wo.cell? ⟨g, 1, none⟩ = some (.int .i64 v2) := cell_of_row wo _ 1 _ _ (0, 0) HB.out
      have k2 : wo.cell? ⟨g, 2, none⟩ = some (.slice D k m) := cell_of_row wo _ 2 _ _ (0, 0) HB.out
      have p0 : wo.cell? ⟨w.heap.size, 0, none⟩ = some (.int .i64 0) := cell_of_row wo _ 0 _ _ (0, 0) HR.out
      have p1 : wo.cell? ⟨w.heap.size, 1, none⟩ = some (.int .i64 0) := cell_of_row wo _ 1 _ _ (0, 0) HR.out
      have p2 : wo.cell? ⟨w.heap.size, 2, none⟩ = some (.slice none 0 0) := cell_of_row wo _ 2 _ _ (0, 0) HR.out
      have pf : ∀ o, wo.frozen? ⟨w.heap.size, o, none⟩ = false := fun o => blk_free HR.out
      have hlw : w.heap.size < wo.heap.size := by omega
      have HL := Lib.hid hlen
      have HOK : Hid (Tn.okB ⟨(L : Int), (v2 : Int), rows⟩ = true) := Lib.hid (by
        show (inB (L : Int) 1 3 && (inB (rows.length : Int) 1 12 && (inB (v2 : Int) 0 ((rows.length : Int) - 1) && rows.all (rowOk (rows.length : Int) (L : Int))))) = true
        rw [hlen, inB_iff.2 ⟨by omega, by omega⟩, inB_iff.2 ⟨by omega, by omega⟩, inB_iff.2 ⟨by omega, by omega⟩, HRW.out]
        rfl)
      clear hlen
      go_wp2
      refine bodyPost_ret (v := .agg #[.int .i64 L, .int .i64 v2, .slice D k m]) (by simp [results, Tryd.results92, go_sem, p0, p1, p2]) rfl
        ⟨⟨(L : Int), (v2 : Int), rows⟩, _, rfl, HOK.out, b2, ⟨D, m, b2, by rw [HL.out], o2.only (bs' := [w.heap.size]) (by repeat (first | with_reducible exact OnlyB.refl _ _ | with_reducible refine OnlyB.setCell ?_ (by simp) _ | with_reducible refine OnlyB.alloc ?_ _ | with_reducible refine OnlyB.drew ?_ | refine OnlyB.trans ?_ (OnlyB.of_below (by assumption) _))) (fun g' hg' => ?_), rfl⟩, (f2.low (by omega)).more (by first | omega | (simp only [sz_alloc, sz_set, sz_drew, sz_drewN]; omega) | (simp only [sz_alloc, sz_set, sz_drew, sz_drewN] at *; omega)), (by repeat (first | exact HOr.out | refine OnlyB.setNew ?_ (Nat.le_refl _) _))⟩
      have := f2.2 g' hg'; simp; omega
end Go.Proofs.YtelmooaenodfaaaDoor
