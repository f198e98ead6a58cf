/-
  Lemmas and contracts, joined: Vbuild Vworks Post Open Post2 Vopen Vrchk Vch Vrpar Vvs.
-/
import Derived.Test.YtpeoodkepjhhiaaDoorPf3
import Derived.Test.YtpeoodkepjhhiaaDoorRows
import Derived.WalkKit
import Derived.ProofKit
import Derived.OpenShut
import Derived.Below
import Derived.ChangeSame
import Derived.Test.YtpeoodkepjhhiaaDoorPf1
import Derived.Carry
import Derived.Deep.Slices
import Derived.Deep.Fields
import Derived.Lib.SmallJoins
import Derived.DataReads
import Derived.Test.YtpeoodkepjhhiaaDoorCards
import Derived.Test.YtpeoodkepjhhiaaDoorTie
import Derived.Lib.LaidU8
import Derived.LaidMore
import Derived.Lay
import Derived.Stop.Joined
import Derived.Test.YtpeoodkepjhhiaaDoorPf2
namespace Go.Proofs.YtpeoodkepjhhiaaDoor
open Go Go.RowKit
theorem IntsD.cellq {D : Nat → Prop} {w : World} {b o n c k : Nat} {xs : List Int} {x : Int} (h : IntsD D w (.slice (some ⟨b, o, none⟩) n c) xs) (hk : xs[k]? = some x) : w.cell? ⟨b, o + k, none⟩ = some (.int .i64 x) := by
  obtain ⟨hl, rfl⟩ := List.getElem?_eq_some_iff.1 hk
  exact h.cell hl
theorem ordered_ {W : World} {D : Nat → Prop} {V : Value} {l : List Int} (hI : IntsD D W V l) (hD : ∀ k, D k → k < W.heap.size) (hsz : l.length ≤ 1000000) :
    Calls Tryd.prog 75 #[V] W fun e w' => e = .returned (.bool (ordB l)) ∧ Below W.heap.size W w' := by
  obtain ⟨A, c, rfl⟩ := hI.slice
  rcases Nat.eq_zero_or_pos l.length with h0 | h0
  · skip
    have O0 : Own Z0 W W [] := Own.start W
    refine sx_enter (args := [.slice A l.length c]) Tryd.func75 rfl rfl (by simp) ?_
    refine cw_seq (fun FK1 K1 => ?_)
    refine cw_region ?_
    refine wl_val (v := .bool false) (fun ρ e => ex_assign (e _ _ rfl)) rfl rfl ?_
    refine wl_nil ?_
    refine xw_next K1 ?_
    refine cw_seq (fun FK2 K2 => ?_)
    refine cw_region ?_
    obtain ⟨g3, w4, r5, O6, hg7, hs8⟩ := own_alloc O0 70 ze70 (cs := (boolCs (flagL 129 [])).toArray) (by rw [flagL_nil]; simp [boolCs, Value.cells])
    refine wl_val (v := .pointer (some ⟨g3, 0, none⟩)) (fun ρ e => r5 ρ _ _ _ _ _) rfl rfl ?_
    refine wl_nil ?_
    refine xw_next K2 ?_
    refine cw_seq (fun FK9 K9 => ?_)
    refine cw_seq (fun FK10 K10 => ?_)
    refine cw_region ?_
    refine wl_val (v := .slice A l.length c) (fun ρ e => ex_move (e _ _ rfl)) rfl rfl ?_
    refine wl_val (v := .int .i64 ((l.length : Nat) : Int)) (fun ρ e => ex_len el36 (e _ _ rfl)) rfl rfl ?_
    refine wl_val (v := .int .i64 0) (fun ρ e => ex_move (e _ _ rfl)) rfl rfl ?_
    refine wl_nil ?_
    refine xw_next K10 ?_
    refine cw_block ?_
    have O11 : Own Z0 W w4 [.blk g3 70 ((boolCs (flagL 129 [])).toArray)] := O6
    refine cw_loop (ι := Nat) (fun q => [(0, .slice A l.length c), (3, .pointer (some ⟨g3, 0, none⟩)), (6, .slice A l.length c), (7, .int .i64 ((l.length : Nat) : Int)), (8, .int .i64 (q : Int))]) (fun q X => (q ≤ l.length) ∧ (opreB (l.take q) = true) ∧ Own Z0 W X [.blk g3 70 ((boolCs (flagL 129 (l.take q))).toArray)]) (fun q => l.length - q) 0 ⟨Nat.zero_le _, (by rw [List.take_zero]; rfl), O11⟩ ⟨rfl, rfl, rfl, rfl, rfl, trivial⟩ (fun q w12 hJ F13 K14 => ?_)
    obtain ⟨i, rfl⟩ : ∃ x, x = q := ⟨_, rfl⟩
    obtain ⟨hi0, hp, O15⟩ := hJ
    try dsimp only at hi0 hp O15 ⊢
    by_cases hi : i < l.length
    · skip
      exact absurd hi (by omega)
    · have hie : i = l.length := by omega
      refine cw_seq (fun FK16 K16 => ?_)
      refine cw_region ?_
      refine wl_val (v := .bool false) (fun ρ e => ex_cmp (u := (i : Int)) (v := ((l.length : Nat) : Int)) (e _ _ rfl) (e _ _ rfl) (lss0 (by omega))) rfl rfl ?_
      refine wl_nil ?_
      refine xw_next K16 ?_
      refine cw_seq (fun FK17 K17 => ?_)
      refine cw_false rfl ?_
      refine cw_exit ?_
      refine xw_past (by intro h; cases h) ?_
      refine xw_past (by intro h; cases h) ?_
      refine xw_here ?_
      refine xw_next K9 ?_
      refine cw_seq (fun FK18 K18 => ?_)
      refine cw_region ?_
      refine wl_val (v := .slice A l.length c) (fun ρ e => ex_move (e _ _ rfl)) rfl rfl ?_
      refine wl_val (v := .int .i64 ((l.length : Nat) : Int)) (fun ρ e => ex_len el36 (e _ _ rfl)) rfl rfl ?_
      refine wl_val (v := .bool false) (fun ρ e => ex_cmp (u := ((l.length : Nat) : Int)) (v := 0) (e _ _ rfl) (e _ _ rfl) (gtr0 (by omega))) rfl rfl ?_
      refine wl_val (v := .bool false) (fun ρ e => ex_assign (e _ _ rfl)) rfl rfl ?_
      refine wl_nil ?_
      refine xw_next K18 ?_
      refine cw_ret ?_
      refine xw_ret (v := .bool false) (fun T hT => res1 rfl T _ (hT 2 _ rfl)) ?_
      rw [hie, List.take_length] at hp
      have hr : ordB l = false := Bool.eq_false_iff.2 fun q => by have := (ordB_iff.1 q).1; omega
      rw [hr]
      exact ⟨rfl, O15.old⟩
  · obtain ⟨b, o, c', hv0⟩ := hI.form h0
    injection hv0 with hA _ hc
    subst hA hc
    have O0 : Own Z0 W W [.ro D (fun w => IntsD D w (.slice (some ⟨b, o, none⟩) l.length c) l)] := (Own.start W).oldro (D := D) (p := (fun w => IntsD D w (.slice (some ⟨b, o, none⟩) l.length c) l)) (inE_holds hI hD)
    refine sx_enter (args := [.slice (some ⟨b, o, none⟩) l.length c]) Tryd.func75 rfl rfl (by simp) ?_
    refine cw_seq (fun FK19 K19 => ?_)
    refine cw_region ?_
    refine wl_val (v := .bool false) (fun ρ e => ex_assign (e _ _ rfl)) rfl rfl ?_
    refine wl_nil ?_
    refine xw_next K19 ?_
    refine cw_seq (fun FK20 K20 => ?_)
    refine cw_region ?_
    obtain ⟨g21, w22, r23, O24, hg25, hs26⟩ := own_alloc O0 70 ze70 (cs := (boolCs (flagL 129 [])).toArray) (by rw [flagL_nil]; simp [boolCs, Value.cells])
    refine wl_val (v := .pointer (some ⟨g21, 0, none⟩)) (fun ρ e => r23 ρ _ _ _ _ _) rfl rfl ?_
    refine wl_nil ?_
    refine xw_next K20 ?_
    refine cw_seq (fun FK27 K27 => ?_)
    refine cw_seq (fun FK28 K28 => ?_)
    refine cw_region ?_
    refine wl_val (v := .slice (some ⟨b, o, none⟩) l.length c) (fun ρ e => ex_move (e _ _ rfl)) rfl rfl ?_
    refine wl_val (v := .int .i64 ((l.length : Nat) : Int)) (fun ρ e => ex_len el36 (e _ _ rfl)) rfl rfl ?_
    refine wl_val (v := .int .i64 0) (fun ρ e => ex_move (e _ _ rfl)) rfl rfl ?_
    refine wl_nil ?_
    refine xw_next K28 ?_
    refine cw_block ?_
    have O29 : Own Z0 W w22 [.blk g21 70 ((boolCs (flagL 129 [])).toArray), .ro D (fun w => IntsD D w (.slice (some ⟨b, o, none⟩) l.length c) l)] := O24
    refine cw_loop (ι := Nat) (fun q => [(0, .slice (some ⟨b, o, none⟩) l.length c), (3, .pointer (some ⟨g21, 0, none⟩)), (6, .slice (some ⟨b, o, none⟩) l.length c), (7, .int .i64 ((l.length : Nat) : Int)), (8, .int .i64 (q : Int))]) (fun q X => (q ≤ l.length) ∧ (opreB (l.take q) = true) ∧ Own Z0 W X [.blk g21 70 ((boolCs (flagL 129 (l.take q))).toArray), .ro D (fun w => IntsD D w (.slice (some ⟨b, o, none⟩) l.length c) l)]) (fun q => l.length - q) 0 ⟨Nat.zero_le _, (by rw [List.take_zero]; rfl), O29⟩ ⟨rfl, rfl, rfl, rfl, rfl, trivial⟩ (fun q w30 hJ F31 K32 => ?_)
    obtain ⟨i, rfl⟩ : ∃ x, x = q := ⟨_, rfl⟩
    obtain ⟨hi0, hp, O33⟩ := hJ
    try dsimp only at hi0 hp O33 ⊢
    by_cases hi : i < l.length
    · skip
      obtain ⟨v, hv⟩ : ∃ v, l[i]? = some v := ⟨l[i], List.getElem?_eq_getElem hi⟩
      have htk : l.take (i + 1) = l.take i ++ [v] := take_more hv
      refine cw_seq (fun FK34 K34 => ?_)
      refine cw_region ?_
      refine wl_val (v := .bool true) (fun ρ e => ex_cmp (u := (i : Int)) (v := ((l.length : Nat) : Int)) (e _ _ rfl) (e _ _ rfl) (lss1 (by omega))) rfl rfl ?_
      refine wl_nil ?_
      refine xw_next K34 ?_
      refine cw_seq (fun FK35 K35 => ?_)
      refine cw_true rfl ?_
      refine cw_skip ?_
      refine xw_next K35 ?_
      refine cw_seq (fun FK36 K36 => ?_)
      refine cw_block ?_
      refine cw_seq (fun FK37 K37 => ?_)
      refine cw_region ?_
      refine wl_val (v := .pointer (some ⟨b, o + i, none⟩)) (fun ρ e => ex_idx (q := o + i) (i := i) el36 (e _ _ rfl) (e _ _ rfl) (by omega) (by omega)) rfl rfl ?_
      refine wl_val (v := .int .i64 v) (fun ρ e => ex_load1 ty3 (e _ _ rfl) (IntsD.cellq ((O33.ro 1 rfl) : IntsD _ _ (.slice (some ⟨b, o, none⟩) l.length c) l) hv)) rfl rfl ?_
      refine wl_val (v := .int .i64 v) (fun ρ e => ex_assign (e _ _ rfl)) rfl rfl ?_
      refine wl_nil ?_
      refine xw_next K37 ?_
      refine cw_seq (fun FK38 K38 => ?_)
      refine cw_seq (fun FK39 K39 => ?_)
      refine cw_region ?_
      refine wl_val (v := .int .i64 v) (fun ρ e => ex_move (e _ _ rfl)) rfl rfl ?_
      by_cases c40 : v < 1
      · skip
        refine wl_val (v := .bool true) (fun ρ e => ex_cmp (u := v) (v := 1) (e _ _ rfl) (e _ _ rfl) (lss1 (by omega))) rfl rfl ?_
        refine wl_val (v := .bool true) (fun ρ e => ex_move (e _ _ rfl)) rfl rfl ?_
        refine wl_skip rfl rfl ?_
        refine wl_skip rfl rfl ?_
        refine wl_val (v := .bool true) (fun ρ e => ex_pick1 (e _ _ rfl) (e _ _ rfl)) rfl rfl ?_
        refine wl_val (v := .bool true) (fun ρ e => ex_move (e _ _ rfl)) rfl rfl ?_
        refine wl_skip rfl rfl ?_
        refine wl_skip rfl rfl ?_
        refine wl_skip rfl rfl ?_
        refine wl_val (v := .bool true) (fun ρ e => ex_pick1 (e _ _ rfl) (e _ _ rfl)) rfl rfl ?_
        refine wl_nil ?_
        refine xw_next K39 ?_
        refine cw_true rfl ?_
        refine cw_seq (fun FK41 K41 => ?_)
        refine cw_region ?_
        refine wl_val (v := .bool false) (fun ρ e => ex_assign (e _ _ rfl)) rfl rfl ?_
        refine wl_nil ?_
        refine xw_next K41 ?_
        refine cw_ret ?_
        refine xw_past (by intro h; cases h) ?_
        refine xw_blockret ?_
        refine xw_past (by intro h; cases h) ?_
        refine xw_past (by intro h; cases h) ?_
        refine xw_blockret ?_
        refine xw_past (by intro h; cases h) ?_
        refine xw_ret (v := .bool false) (fun T hT => res1 rfl T _ (hT 2 _ rfl)) ?_
        have hno : ordB l = false := Bool.eq_false_iff.2 fun q => by have q2 := opre_take (ordB_iff.1 q).2 (i + 1); rw [htk, opre_snoc hp] at q2; first | omega | (have := q2.2.2; simp_all)
        rw [hno]
        exact ⟨rfl, O33.old⟩
      · skip
        refine wl_val (v := .bool false) (fun ρ e => ex_cmp (u := v) (v := 1) (e _ _ rfl) (e _ _ rfl) (lss0 (by omega))) rfl rfl ?_
        refine wl_val (v := .bool false) (fun ρ e => ex_move (e _ _ rfl)) rfl rfl ?_
        refine wl_val (v := .int .i64 v) (fun ρ e => ex_move (e _ _ rfl)) rfl rfl ?_
        by_cases c42 : v > 128
        · skip
          refine wl_val (v := .bool true) (fun ρ e => ex_cmp (u := v) (v := 128) (e _ _ rfl) (e _ _ rfl) (gtr1 (by omega))) rfl rfl ?_
          refine wl_val (v := .bool true) (fun ρ e => ex_pick0 (e _ _ rfl) (e _ _ rfl)) rfl rfl ?_
          refine wl_val (v := .bool true) (fun ρ e => ex_move (e _ _ rfl)) rfl rfl ?_
          refine wl_skip rfl rfl ?_
          refine wl_skip rfl rfl ?_
          refine wl_skip rfl rfl ?_
          refine wl_val (v := .bool true) (fun ρ e => ex_pick1 (e _ _ rfl) (e _ _ rfl)) rfl rfl ?_
          refine wl_nil ?_
          refine xw_next K39 ?_
          refine cw_true rfl ?_
          refine cw_seq (fun FK43 K43 => ?_)
          refine cw_region ?_
          refine wl_val (v := .bool false) (fun ρ e => ex_assign (e _ _ rfl)) rfl rfl ?_
          refine wl_nil ?_
          refine xw_next K43 ?_
          refine cw_ret ?_
          refine xw_past (by intro h; cases h) ?_
          refine xw_blockret ?_
          refine xw_past (by intro h; cases h) ?_
          refine xw_past (by intro h; cases h) ?_
          refine xw_blockret ?_
          refine xw_past (by intro h; cases h) ?_
          refine xw_ret (v := .bool false) (fun T hT => res1 rfl T _ (hT 2 _ rfl)) ?_
          have hno : ordB l = false := Bool.eq_false_iff.2 fun q => by have q2 := opre_take (ordB_iff.1 q).2 (i + 1); rw [htk, opre_snoc hp] at q2; first | omega | (have := q2.2.2; simp_all)
          rw [hno]
          exact ⟨rfl, O33.old⟩
        · skip
          obtain ⟨vn, rfl⟩ : ∃ n : Nat, v = n := ⟨v.toNat, by omega⟩
          refine wl_val (v := .bool false) (fun ρ e => ex_cmp (u := (vn : Int)) (v := 128) (e _ _ rfl) (e _ _ rfl) (gtr0 (by omega))) rfl rfl ?_
          refine wl_val (v := .bool false) (fun ρ e => ex_pick0 (e _ _ rfl) (e _ _ rfl)) rfl rfl ?_
          refine wl_val (v := .bool false) (fun ρ e => ex_move (e _ _ rfl)) rfl rfl ?_
          refine wl_val (v := .int .i64 (vn : Int)) (fun ρ e => ex_move (e _ _ rfl)) rfl rfl ?_
          refine wl_val (v := .pointer (some ⟨g21, vn, none⟩)) (fun ρ e => ex_idxA (q := vn) (i := vn) an70 (e _ _ rfl) (e _ _ rfl) (by omega) (by omega)) rfl rfl ?_
          refine wl_val (v := .bool (decide ((vn : Int) ∈ (l.take i)))) (fun ρ e => ex_load1 ty4 (e _ _ rfl) (O33.cell 0 vn rfl (getBo (flagL_get (l.take i) (by omega))))) rfl rfl ?_
          refine wl_val (v := .bool (decide ((vn : Int) ∈ (l.take i)))) (fun ρ e => ex_pick0 (e _ _ rfl) (e _ _ rfl)) rfl rfl ?_
          refine wl_nil ?_
          refine xw_next K39 ?_
          refine cw_cond (b := (decide ((vn : Int) ∈ (l.take i)))) rfl (fun c44 => ?_) (fun c44 => ?_)
          · skip
            refine cw_seq (fun FK45 K45 => ?_)
            refine cw_region ?_
            refine wl_val (v := .bool false) (fun ρ e => ex_assign (e _ _ rfl)) rfl rfl ?_
            refine wl_nil ?_
            refine xw_next K45 ?_
            refine cw_ret ?_
            refine xw_past (by intro h; cases h) ?_
            refine xw_blockret ?_
            refine xw_past (by intro h; cases h) ?_
            refine xw_past (by intro h; cases h) ?_
            refine xw_blockret ?_
            refine xw_past (by intro h; cases h) ?_
            refine xw_ret (v := .bool false) (fun T hT => res1 rfl T _ (hT 2 _ rfl)) ?_
            have hno : ordB l = false := Bool.eq_false_iff.2 fun q => by have q2 := opre_take (ordB_iff.1 q).2 (i + 1); rw [htk, opre_snoc hp] at q2; first | omega | (have := q2.2.2; simp_all)
            rw [hno]
            exact ⟨rfl, O33.old⟩
          · skip
            refine cw_skip ?_
            refine xw_next K38 ?_
            refine cw_region ?_
            refine wl_val (v := .int .i64 (vn : Int)) (fun ρ e => ex_move (e _ _ rfl)) rfl rfl ?_
            refine wl_val (v := .pointer (some ⟨g21, vn, none⟩)) (fun ρ e => ex_idxA (q := vn) (i := vn) an70 (e _ _ rfl) (e _ _ rfl) (by omega) (by omega)) rfl rfl ?_
            obtain ⟨w46, r47, O48, hs49⟩ := own_put (o := vn) (n := 1) O33 ty4 (.bool true) [.bool true] (cs' := (boolCs (flagL 129 ((l.take i) ++ [(vn : Int)]))).toArray) rfl rfl rfl (by simp [boolCs, flagL_len] <;> omega) ((setBo _ vn true).trans (congrArg (fun z => (boolCs z).toArray) (flagL_set 129 vn (l.take i))))
            refine wl_none (fun ρ e => r47 ρ _ _ _ _ _ _ (e _ _ rfl) (e _ _ rfl)) rfl ?_
            refine wl_nil ?_
            refine xw_block ?_
            refine xw_next K36 ?_
            refine cw_region ?_
            refine wl_val (v := .int .i64 ((i + 1 : Nat) : Int)) (fun ρ e => ex_arith (k := .i64) (u := (i : Int)) (v := 1) (e _ _ rfl) (e _ _ rfl) (congrArg some ((congrArg _ (by omega)).trans (wrap_in (u := ((i + 1 : Nat) : Int)) (by omega) (by omega))))) rfl rfl ?_
            refine wl_val (v := .int .i64 ((i + 1 : Nat) : Int)) (fun ρ e => ex_move (e _ _ rfl)) rfl rfl ?_
            refine wl_nil ?_
            have O50 : Own Z0 W w46 [.blk g21 70 ((boolCs (flagL 129 (l.take (i + 1)))).toArray), .ro D (fun w => IntsD D w (.slice (some ⟨b, o, none⟩) l.length c) l)] := by rw [htk]; exact O48
            refine xw_round K32 (i + 1) (by show l.length - (i + 1) < l.length - i; omega) ⟨(by show i + 1 ≤ l.length; omega), (by show opreB (l.take (i + 1)) = true; rw [htk]; exact (opre_snoc hp).2 ⟨by omega, by omega, by simpa using c44⟩), O50⟩ ⟨rfl, rfl, rfl, rfl, rfl, trivial⟩
    · have hie : i = l.length := by omega
      refine cw_seq (fun FK51 K51 => ?_)
      refine cw_region ?_
      refine wl_val (v := .bool false) (fun ρ e => ex_cmp (u := (i : Int)) (v := ((l.length : Nat) : Int)) (e _ _ rfl) (e _ _ rfl) (lss0 (by omega))) rfl rfl ?_
      refine wl_nil ?_
      refine xw_next K51 ?_
      refine cw_seq (fun FK52 K52 => ?_)
      refine cw_false rfl ?_
      refine cw_exit ?_
      refine xw_past (by intro h; cases h) ?_
      refine xw_past (by intro h; cases h) ?_
      refine xw_here ?_
      refine xw_next K27 ?_
      refine cw_seq (fun FK53 K53 => ?_)
      refine cw_region ?_
      refine wl_val (v := .slice (some ⟨b, o, none⟩) l.length c) (fun ρ e => ex_move (e _ _ rfl)) rfl rfl ?_
      refine wl_val (v := .int .i64 ((l.length : Nat) : Int)) (fun ρ e => ex_len el36 (e _ _ rfl)) rfl rfl ?_
      refine wl_val (v := .bool true) (fun ρ e => ex_cmp (u := ((l.length : Nat) : Int)) (v := 0) (e _ _ rfl) (e _ _ rfl) (gtr1 (by omega))) rfl rfl ?_
      refine wl_val (v := .bool true) (fun ρ e => ex_assign (e _ _ rfl)) rfl rfl ?_
      refine wl_nil ?_
      refine xw_next K53 ?_
      refine cw_ret ?_
      refine xw_ret (v := .bool true) (fun T hT => res1 rfl T _ (hT 2 _ rfl)) ?_
      rw [hie, List.take_length] at hp
      have hr : ordB l = true := ordB_iff.2 ⟨by omega, hp⟩
      rw [hr]
      exact ⟨rfl, O33.old⟩
theorem part55 {W : World} {m : Nat} (h : 2 ≤ m) (h2 : m ≤ 1000000) : Calls Tryd.prog 55 #[.int .i64 (m : Int)] W fun e w' => e = .returned (.int .i64 ((gOf 1 m : Nat) : Int)) ∧ Below W.heap.size W w' := by
  have O0 : Own Z0 W W [] := Own.start W
  refine sx_enter (args := [.int .i64 (m : Int)]) Tryd.func55 rfl rfl (by simp) ?_
  refine cw_seq (fun FK1 K1 => ?_)
  refine cw_region ?_
  refine wl_val (v := .int .i64 0) (fun ρ e => ex_assign (e _ _ rfl)) rfl rfl ?_
  refine wl_nil ?_
  refine xw_next K1 ?_
  refine cw_seq (fun FK2 K2 => ?_)
  refine cw_region ?_
  refine wl_val (v := .int .i64 1) (fun ρ e => ex_assign (e _ _ rfl)) rfl rfl ?_
  refine wl_nil ?_
  refine xw_next K2 ?_
  refine cw_ret ?_
  refine xw_ret (v := .int .i64 1) (fun T hT => res1 rfl T _ (hT 2 _ rfl)) ?_
  exact ⟨rfl, O0.old⟩
theorem ex_sliceLo {ρ : Operand → Value} {d : Option Tmp} {x y : Operand} {t T : TypeId} {pos : String} {aft : Array Edge} {gd : Option (Nat × Bool)} {w : World} {e b o n c k q : Nat} (hT : ElB T e 1) (hx : ρ x = .slice (some ⟨b, o, none⟩) n c) (hy : ρ y = .int .i64 (k : Int)) (h1 : k < c) (h2 : k ≤ n) (hq : o + k = q) : (execOp ρ ⟨d, .slice T x (some y) none none, t, pos, aft, gd⟩).run Tryd.prog w = .ok (.value (.slice (some ⟨b, q, none⟩) (n - k) (c - k))) w := by
  subst hq
  have h3 : ¬ c = k := by omega
  simp [execOp, Instr.sliceAt, Instr.slice, run_underlying hT.elem, hx, hy, Instr.sliceBounds, Instr.sliceBound, asIntOf, h2, run_size hT.size, addr_plus, h3]
theorem part_ {L0 : List Int} {g : Nat → Nat} {D : Nat → Prop} {lc pc oc bl ol cl : Nat} {fl : FuncId} (hin : Enters Tryd.prog fl) (HL : ∀ (m : Nat) (W : World), 2 ≤ m → m ≤ 1000000 → Calls Tryd.prog fl #[.int .i64 (m : Int)] W fun e w' => e = .returned (.int .i64 ((g m : Nat) : Int)) ∧ Below W.heap.size W w') (hg : ∀ m, 2 ≤ m → 1 ≤ g m ∧ g m < m) :
    ∀ (k s m cc : Nat), s + m ≤ L0.length → 1 ≤ m → m ≤ k → m ≤ cc → ∀ (Z : Bool → Nat → Prop) (w0 W : World) (A : Option Addr) (n c : Nat) (l : List VN), Own Z w0 W [.blk lc 75 #[.func (.func fl) #[] #[]], .blk pc 69 #[.func (.func 76) #[] #[.pointer (some ⟨lc, 0, none⟩), .pointer (some ⟨pc, 0, none⟩), .pointer (some ⟨oc, 0, none⟩)]], .blk oc 23 #[.slice A n c], .row (.slice A n c) 38 3 n (ncells l), .ro D (fun w => IntsD D w (.slice (some ⟨bl, ol, none⟩) L0.length cl) L0)] → n + 2 * m ≤ 1000000 →
    Calls Tryd.prog 76 #[.slice (some ⟨bl, ol + s, none⟩) m cc, .pointer (some ⟨lc, 0, none⟩), .pointer (some ⟨pc, 0, none⟩), .pointer (some ⟨oc, 0, none⟩)] W fun e w' => ∃ A' c', e = .returned (.int .i64 ((n + Tr.size (mkT g k ((L0.drop s).take m)) - 1 : Nat) : Int)) ∧ Own Z w0 w' [.blk lc 75 #[.func (.func fl) #[] #[]], .blk pc 69 #[.func (.func 76) #[] #[.pointer (some ⟨lc, 0, none⟩), .pointer (some ⟨pc, 0, none⟩), .pointer (some ⟨oc, 0, none⟩)]], .blk oc 23 #[.slice A' (n + Tr.size (mkT g k ((L0.drop s).take m))) c'], .row (.slice A' (n + Tr.size (mkT g k ((L0.drop s).take m))) c') 38 3 (n + Tr.size (mkT g k ((L0.drop s).take m))) (ncells (l ++ post (mkT g k ((L0.drop s).take m)) n)), .ro D (fun w => IntsD D w (.slice (some ⟨bl, ol, none⟩) L0.length cl) L0)]
  | 0, s, m, cc, _, h1, h2, _ => absurd h1 (by omega)
  | k + 1, s, m, cc, hsm, hm1, hmk, hmc => fun Z w0 W A n c l O0 hlim => by
    have IH := part_ (L0 := L0) (lc := lc) (pc := pc) (oc := oc) (bl := bl) (ol := ol) (cl := cl) (D := D) hin HL hg k
    obtain ⟨v0, hv0⟩ : ∃ v, L0[s]? = some v := ⟨L0[s], List.getElem?_eq_getElem (by omega)⟩
    have hlen : ((L0.drop s).take m).length = m := by rw [List.length_take, List.length_drop]; omega
    by_cases h1 : m = 1
    · skip
      have hT : mkT g (k + 1) ((L0.drop s).take m) = .leaf v0 := mkT_one (by rw [hlen]; omega) (by rw [List.getElem?_take_of_lt (by omega), List.getElem?_drop, Nat.add_zero]; exact hv0)
      refine sx_enter (args := [.slice (some ⟨bl, ol + s, none⟩) m cc, .pointer (some ⟨lc, 0, none⟩), .pointer (some ⟨pc, 0, none⟩), .pointer (some ⟨oc, 0, none⟩)]) Tryd.func76 rfl rfl (by simp) ?_
      refine cw_seq (fun FK1 K1 => ?_)
      refine cw_region ?_
      refine wl_val (v := .int .i64 0) (fun ρ e => ex_assign (e _ _ rfl)) rfl rfl ?_
      refine wl_nil ?_
      refine xw_next K1 ?_
      refine cw_seq (fun FK2 K2 => ?_)
      refine cw_region ?_
      refine wl_val (v := .slice (some ⟨bl, ol + s, none⟩) m cc) (fun ρ e => ex_move (e _ _ rfl)) rfl rfl ?_
      refine wl_val (v := .pointer (some ⟨bl, ol + s, none⟩)) (fun ρ e => ex_idx (q := ol + s) (i := 0) el36 (e _ _ rfl) (e _ _ rfl) (by omega) (by omega)) rfl rfl ?_
      refine wl_val (v := .int .i64 v0) (fun ρ e => ex_load1 ty3 (e _ _ rfl) (IntsD.cellq ((O0.ro 4 rfl) : IntsD _ _ (.slice (some ⟨bl, ol, none⟩) L0.length cl) L0) hv0)) rfl rfl ?_
      refine wl_call (args := [.int .i64 v0]) in_50 rfl rfl rfl ?_
      refine (leafof_ v0 (W := W)).mono ?_
      rintro _ w3 ⟨rfl, hb4⟩
      have O5 : Own Z w0 w3 [.blk lc 75 #[.func (.func fl) #[] #[]], .blk pc 69 #[.func (.func 76) #[] #[.pointer (some ⟨lc, 0, none⟩), .pointer (some ⟨pc, 0, none⟩), .pointer (some ⟨oc, 0, none⟩)]], .blk oc 23 #[.slice A n c], .row (.slice A n c) 38 3 n (ncells l), .ro D (fun w => IntsD D w (.slice (some ⟨bl, ol, none⟩) L0.length cl) L0)] := O0.below hb4
      refine ⟨_, rfl, ?_⟩
      obtain ⟨g6, w7, r8, O9, hg10, hs11⟩ := own_alloc O5 38 ze38 rfl
      refine wl_val (v := .pointer (some ⟨g6, 0, none⟩)) (fun ρ e => r8 ρ _ _ _ _ _) rfl rfl ?_
      obtain ⟨w12, r13, O14, hs15⟩ := own_put (o := 0) (n := 3) O9 ty38 (.agg #[.int .i64 (-1), .int .i64 (-1), .int .i64 v0]) [.int .i64 (-1), .int .i64 (-1), .int .i64 v0] (cs' := #[.int .i64 (-1), .int .i64 (-1), .int .i64 v0]) rfl rfl rfl (Nat.le_of_ble_eq_true rfl) rfl
      refine wl_none (fun ρ e => r13 ρ _ _ _ _ _ _ (e _ _ rfl) (e _ _ rfl)) rfl ?_
      refine wl_nil ?_
      refine xw_next K2 ?_
      refine cw_seq (fun FK16 K16 => ?_)
      refine cw_seq (fun FK17 K17 => ?_)
      refine cw_region ?_
      refine wl_val (v := .slice (some ⟨bl, ol + s, none⟩) m cc) (fun ρ e => ex_move (e _ _ rfl)) rfl rfl ?_
      refine wl_val (v := .int .i64 (m : Int)) (fun ρ e => ex_len el36 (e _ _ rfl)) rfl rfl ?_
      refine wl_val (v := .bool false) (fun ρ e => ex_cmp (u := (m : Int)) (v := 1) (e _ _ rfl) (e _ _ rfl) (gtr0 (by omega))) rfl rfl ?_
      refine wl_nil ?_
      refine xw_next K17 ?_
      refine cw_false rfl ?_
      refine cw_skip ?_
      refine xw_next K16 ?_
      refine cw_seq (fun FK18 K18 => ?_)
      refine cw_region ?_
      refine wl_val (v := .slice A n c) (fun ρ e => ex_load1 ty23 (e _ _ rfl) (O14.cell 3 0 rfl rfl)) rfl rfl ?_
      refine wl_val (v := .agg #[.int .i64 (-1), .int .i64 (-1), .int .i64 v0]) (fun ρ e => ex_loadN (vs := [.int .i64 (-1), .int .i64 (-1), .int .i64 v0]) ty38 (e _ _ rfl) rfl (O14.cells 0 0 rfl rfl)) rfl rfl ?_
      obtain ⟨g19, w20, r21, O22, hg23, hs24⟩ := own_slice O14 el23 ze38 1 [(0, .agg #[.int .i64 (-1), .int .i64 (-1), .int .i64 v0])] (cs := #[.int .i64 (-1), .int .i64 (-1), .int .i64 v0]) (by decide) (by kernel_rfl)
      refine wl_val (v := .slice (some ⟨g19, 0, none⟩) 1 1) (fun ρ e => r21 ρ _ _ _ _ _ _ (e.parts rfl)) rfl rfl ?_
      obtain ⟨A25, c26, w27, r28, O29, hz30, hc31⟩ := own_app1 (O22.re [5, 0, 1, 2, 3, 4, 6] rfl : Own Z w0 w20 [.row (.slice A n c) 38 3 n (ncells l), .blk g19 38 #[.int .i64 (-1), .int .i64 (-1), .int .i64 v0], .blk g6 38 #[.int .i64 (-1), .int .i64 (-1), .int .i64 v0], .blk lc 75 #[.func (.func fl) #[] #[]], .blk pc 69 #[.func (.func 76) #[] #[.pointer (some ⟨lc, 0, none⟩), .pointer (some ⟨pc, 0, none⟩), .pointer (some ⟨oc, 0, none⟩)]], .blk oc 23 #[.slice A n c], .ro D (fun w => IntsD D w (.slice (some ⟨bl, ol, none⟩) L0.length cl) L0)]) ap23 ((O22.re [5, 0, 1, 2, 3, 4, 6] rfl : Own Z w0 w20 [.row (.slice A n c) 38 3 n (ncells l), .blk g19 38 #[.int .i64 (-1), .int .i64 (-1), .int .i64 v0], .blk g6 38 #[.int .i64 (-1), .int .i64 (-1), .int .i64 v0], .blk lc 75 #[.func (.func fl) #[] #[]], .blk pc 69 #[.func (.func 76) #[] #[.pointer (some ⟨lc, 0, none⟩), .pointer (some ⟨pc, 0, none⟩), .pointer (some ⟨oc, 0, none⟩)]], .blk oc 23 #[.slice A n c], .ro D (fun w => IntsD D w (.slice (some ⟨bl, ol, none⟩) L0.length cl) L0)]).blk 1 rfl) (cells := [.int .i64 (-1), .int .i64 (-1), .int .i64 v0]) rfl rfl (by omega) (by omega) (ys := (ncells (l ++ [(VN.mk (-1) (-1) v0)]))) (ncells_snoc l (VN.mk (-1) (-1) v0))
      refine wl_val (v := .slice A25 (n + 1) c26) (fun ρ e => r28 ρ _ _ _ _ _ _ _ (e _ _ rfl) (e _ _ rfl)) rfl rfl ?_
      obtain ⟨w32, r33, O34, hs35⟩ := own_put (o := 0) (n := 1) (O29.re [5, 0, 1, 2, 3, 4, 6] rfl : Own Z w0 w27 [.blk oc 23 #[.slice A n c], .row (.slice A25 (n + 1) c26) 38 3 (n + 1) (ncells (l ++ [(VN.mk (-1) (-1) v0)])), .blk g19 38 #[.int .i64 (-1), .int .i64 (-1), .int .i64 v0], .blk g6 38 #[.int .i64 (-1), .int .i64 (-1), .int .i64 v0], .blk lc 75 #[.func (.func fl) #[] #[]], .blk pc 69 #[.func (.func 76) #[] #[.pointer (some ⟨lc, 0, none⟩), .pointer (some ⟨pc, 0, none⟩), .pointer (some ⟨oc, 0, none⟩)]], .ro D (fun w => IntsD D w (.slice (some ⟨bl, ol, none⟩) L0.length cl) L0)]) ty23 (.slice A25 (n + 1) c26) [.slice A25 (n + 1) c26] (cs' := #[.slice A25 (n + 1) c26]) rfl rfl rfl (Nat.le_of_ble_eq_true rfl) rfl
      refine wl_none (fun ρ e => r33 ρ _ _ _ _ _ _ (e _ _ rfl) (e _ _ rfl)) rfl ?_
      refine wl_nil ?_
      refine xw_next K18 ?_
      refine cw_seq (fun FK36 K36 => ?_)
      refine cw_region ?_
      refine wl_val (v := .slice A25 (n + 1) c26) (fun ρ e => ex_load1 ty23 (e _ _ rfl) (O34.cell 0 0 rfl rfl)) rfl rfl ?_
      refine wl_val (v := .int .i64 ((n + 1 : Nat) : Int)) (fun ρ e => ex_len el23 (e _ _ rfl)) rfl rfl ?_
      refine wl_val (v := .int .i64 ((n + 1 - 1 : Nat) : Int)) (fun ρ e => ex_arith (k := .i64) (u := ((n + 1 : Nat) : Int)) (v := 1) (e _ _ rfl) (e _ _ rfl) (congrArg some ((congrArg _ (show _ = ((n + 1 - 1 : Nat) : Int) by omega)).trans (wrap_in (by omega) (by omega))))) rfl rfl ?_
      refine wl_val (v := .int .i64 ((n + 1 - 1 : Nat) : Int)) (fun ρ e => ex_assign (e _ _ rfl)) rfl rfl ?_
      refine wl_nil ?_
      refine xw_next K36 ?_
      refine cw_ret ?_
      refine xw_ret (v := .int .i64 ((n + 1 - 1 : Nat) : Int)) (fun T hT => res1 rfl T _ (hT 5 _ rfl)) ?_
      have hn : n + 1 = n + Tr.size (mkT g (k + 1) ((L0.drop s).take m)) := by rw [hT]; simp only [Tr.size] <;> omega
      have hl : (l ++ [(VN.mk (-1) (-1) v0)]) = l ++ post (mkT g (k + 1) ((L0.drop s).take m)) n := by rw [hT]; simp [post]
      have hO := (O34.re [4, 5, 0, 1, 6] rfl : Own Z w0 w32 [.blk lc 75 #[.func (.func fl) #[] #[]], .blk pc 69 #[.func (.func 76) #[] #[.pointer (some ⟨lc, 0, none⟩), .pointer (some ⟨pc, 0, none⟩), .pointer (some ⟨oc, 0, none⟩)]], .blk oc 23 #[.slice A25 (n + 1) c26], .row (.slice A25 (n + 1) c26) 38 3 (n + 1) (ncells (l ++ [(VN.mk (-1) (-1) v0)])), .ro D (fun w => IntsD D w (.slice (some ⟨bl, ol, none⟩) L0.length cl) L0)])
      rw [hn, hl] at hO
      exact ⟨A25, c26, congrArg (fun z : Nat => Ending.returned (.int .i64 (z : Int))) (show n + 1 - 1 = n + Tr.size (mkT g (k + 1) ((L0.drop s).take m)) - 1 by rw [hT]; simp only [Tr.size] <;> omega), hO⟩
    · skip
      have hm2 : 2 ≤ m := by omega
      have hgm := hg m hm2
      have hT : mkT g (k + 1) ((L0.drop s).take m) = .node (mkT g k ((L0.drop s).take (g m))) (mkT g k ((L0.drop (s + g m)).take (m - g m))) := by rw [mkT_more (by rw [hlen]; exact hm2), hlen, List.take_take, Nat.min_eq_left (by omega), List.drop_take, List.drop_drop]
      have hsz1 : Tr.size (mkT g k ((L0.drop s).take (g m))) = 2 * g m - 1 := by rw [(mkT_leaves hg k _ (by rw [List.length_take, List.length_drop]; omega) (by rw [List.length_take, List.length_drop]; omega)).2, List.length_take, List.length_drop, Nat.min_eq_left (by omega)]
      have hsz2 : Tr.size (mkT g k ((L0.drop (s + g m)).take (m - g m))) = 2 * (m - g m) - 1 := by rw [(mkT_leaves hg k _ (by rw [List.length_take, List.length_drop]; omega) (by rw [List.length_take, List.length_drop]; omega)).2, List.length_take, List.length_drop, Nat.min_eq_left (by omega)]
      refine sx_enter (args := [.slice (some ⟨bl, ol + s, none⟩) m cc, .pointer (some ⟨lc, 0, none⟩), .pointer (some ⟨pc, 0, none⟩), .pointer (some ⟨oc, 0, none⟩)]) Tryd.func76 rfl rfl (by simp) ?_
      refine cw_seq (fun FK1 K1 => ?_)
      refine cw_region ?_
      refine wl_val (v := .int .i64 0) (fun ρ e => ex_assign (e _ _ rfl)) rfl rfl ?_
      refine wl_nil ?_
      refine xw_next K1 ?_
      refine cw_seq (fun FK2 K2 => ?_)
      refine cw_region ?_
      refine wl_val (v := .slice (some ⟨bl, ol + s, none⟩) m cc) (fun ρ e => ex_move (e _ _ rfl)) rfl rfl ?_
      refine wl_val (v := .pointer (some ⟨bl, ol + s, none⟩)) (fun ρ e => ex_idx (q := ol + s) (i := 0) el36 (e _ _ rfl) (e _ _ rfl) (by omega) (by omega)) rfl rfl ?_
      refine wl_val (v := .int .i64 v0) (fun ρ e => ex_load1 ty3 (e _ _ rfl) (IntsD.cellq ((O0.ro 4 rfl) : IntsD _ _ (.slice (some ⟨bl, ol, none⟩) L0.length cl) L0) hv0)) rfl rfl ?_
      refine wl_call (args := [.int .i64 v0]) in_50 rfl rfl rfl ?_
      refine (leafof_ v0 (W := W)).mono ?_
      rintro _ w3 ⟨rfl, hb4⟩
      have O5 : Own Z w0 w3 [.blk lc 75 #[.func (.func fl) #[] #[]], .blk pc 69 #[.func (.func 76) #[] #[.pointer (some ⟨lc, 0, none⟩), .pointer (some ⟨pc, 0, none⟩), .pointer (some ⟨oc, 0, none⟩)]], .blk oc 23 #[.slice A n c], .row (.slice A n c) 38 3 n (ncells l), .ro D (fun w => IntsD D w (.slice (some ⟨bl, ol, none⟩) L0.length cl) L0)] := O0.below hb4
      refine ⟨_, rfl, ?_⟩
      obtain ⟨g6, w7, r8, O9, hg10, hs11⟩ := own_alloc O5 38 ze38 rfl
      refine wl_val (v := .pointer (some ⟨g6, 0, none⟩)) (fun ρ e => r8 ρ _ _ _ _ _) rfl rfl ?_
      obtain ⟨w12, r13, O14, hs15⟩ := own_put (o := 0) (n := 3) O9 ty38 (.agg #[.int .i64 (-1), .int .i64 (-1), .int .i64 v0]) [.int .i64 (-1), .int .i64 (-1), .int .i64 v0] (cs' := #[.int .i64 (-1), .int .i64 (-1), .int .i64 v0]) rfl rfl rfl (Nat.le_of_ble_eq_true rfl) rfl
      refine wl_none (fun ρ e => r13 ρ _ _ _ _ _ _ (e _ _ rfl) (e _ _ rfl)) rfl ?_
      refine wl_nil ?_
      refine xw_next K2 ?_
      refine cw_seq (fun FK16 K16 => ?_)
      refine cw_seq (fun FK17 K17 => ?_)
      refine cw_region ?_
      refine wl_val (v := .slice (some ⟨bl, ol + s, none⟩) m cc) (fun ρ e => ex_move (e _ _ rfl)) rfl rfl ?_
      refine wl_val (v := .int .i64 (m : Int)) (fun ρ e => ex_len el36 (e _ _ rfl)) rfl rfl ?_
      refine wl_val (v := .bool true) (fun ρ e => ex_cmp (u := (m : Int)) (v := 1) (e _ _ rfl) (e _ _ rfl) (gtr1 (by omega))) rfl rfl ?_
      refine wl_nil ?_
      refine xw_next K17 ?_
      refine cw_true rfl ?_
      refine cw_seq (fun FK18 K18 => ?_)
      refine cw_region ?_
      refine wl_val (v := .func (.func fl) #[] #[]) (fun ρ e => ex_load1 ty75 (e _ _ rfl) (O14.cell 1 0 rfl rfl)) rfl rfl ?_
      refine wl_val (v := .slice (some ⟨bl, ol + s, none⟩) m cc) (fun ρ e => ex_move (e _ _ rfl)) rfl rfl ?_
      refine wl_val (v := .int .i64 (m : Int)) (fun ρ e => ex_len el36 (e _ _ rfl)) rfl rfl ?_
      refine wl_callv (args := [.int .i64 (m : Int)]) (all := [.int .i64 (m : Int)]) hin rfl rfl rfl rfl rfl ?_
      refine (HL m _ hm2 (by omega)).mono ?_
      rintro _ w19 ⟨rfl, hb20⟩
      have O21 : Own Z w0 w19 [.blk g6 38 #[.int .i64 (-1), .int .i64 (-1), .int .i64 v0], .blk lc 75 #[.func (.func fl) #[] #[]], .blk pc 69 #[.func (.func 76) #[] #[.pointer (some ⟨lc, 0, none⟩), .pointer (some ⟨pc, 0, none⟩), .pointer (some ⟨oc, 0, none⟩)]], .blk oc 23 #[.slice A n c], .row (.slice A n c) 38 3 n (ncells l), .ro D (fun w => IntsD D w (.slice (some ⟨bl, ol, none⟩) L0.length cl) L0)] := O14.below hb20
      refine ⟨_, rfl, ?_⟩
      refine wl_val (v := .int .i64 ((g m : Nat) : Int)) (fun ρ e => ex_assign (e _ _ rfl)) rfl rfl ?_
      refine wl_nil ?_
      refine xw_next K18 ?_
      refine cw_drawn (fun X => Own Z w0 X [.blk g6 38 #[.int .i64 (-1), .int .i64 (-1), .int .i64 v0], .blk lc 75 #[.func (.func fl) #[] #[]], .blk pc 69 #[.func (.func 76) #[] #[.pointer (some ⟨lc, 0, none⟩), .pointer (some ⟨pc, 0, none⟩), .pointer (some ⟨oc, 0, none⟩)]], .ro D (fun w => IntsD D w (.slice (some ⟨bl, ol, none⟩) L0.length cl) L0)]) 11 [(0, 0), (1, 1), (2, 1), (3, 1), (5, 0), (6, 1), (7, 1), (8, 1), (4, 2), (9, 2), (10, 1), (11, 3)] (by kernel_rfl) (by kernel_rfl) (PQ.then_ PQ.body) ((O21.re [0, 1, 2, 5] rfl : Own Z w0 w19 [.blk g6 38 #[.int .i64 (-1), .int .i64 (-1), .int .i64 v0], .blk lc 75 #[.func (.func fl) #[] #[]], .blk pc 69 #[.func (.func 76) #[] #[.pointer (some ⟨lc, 0, none⟩), .pointer (some ⟨pc, 0, none⟩), .pointer (some ⟨oc, 0, none⟩)]], .ro D (fun w => IntsD D w (.slice (some ⟨bl, ol, none⟩) L0.length cl) L0)])).drew ?_
      have O22 : Own Z w0 w19.drew [.blk g6 38 #[.int .i64 (-1), .int .i64 (-1), .int .i64 v0], .blk lc 75 #[.func (.func fl) #[] #[]], .blk pc 69 #[.func (.func 76) #[] #[.pointer (some ⟨lc, 0, none⟩), .pointer (some ⟨pc, 0, none⟩), .pointer (some ⟨oc, 0, none⟩)]], .blk oc 23 #[.slice A n c], .row (.slice A n c) 38 3 n (ncells l), .ro D (fun w => IntsD D w (.slice (some ⟨bl, ol, none⟩) L0.length cl) L0)] := O21.drew
      refine wt0 (v := .func (.func 76) #[] #[.pointer (some ⟨lc, 0, none⟩), .pointer (some ⟨pc, 0, none⟩), .pointer (some ⟨oc, 0, none⟩)]) rfl (fun ρ e W hW => ex_load1 ty69 (e _ _ rfl) (hW.cell 2 0 rfl rfl)) rfl rfl ?_
      refine wt1 (v := .slice (some ⟨bl, ol + s, none⟩) m cc) rfl (fun ρ e W => ex_move (e _ _ rfl)) rfl rfl ?_
      refine wt1 (v := .int .i64 ((g m : Nat) : Int)) rfl (fun ρ e W => ex_move (e _ _ rfl)) rfl rfl ?_
      refine wt1 (v := .slice (some ⟨bl, ol + s, none⟩) (g m) cc) rfl (fun ρ e W => ex_sliceHi (h := g m) el36 (e _ _ rfl) (e _ _ rfl) (by omega)) rfl rfl ?_
      refine wt0 (v := .func (.func 76) #[] #[.pointer (some ⟨lc, 0, none⟩), .pointer (some ⟨pc, 0, none⟩), .pointer (some ⟨oc, 0, none⟩)]) rfl (fun ρ e W hW => ex_load1 ty69 (e _ _ rfl) (hW.cell 2 0 rfl rfl)) rfl rfl ?_
      refine wt1 (v := .slice (some ⟨bl, ol + s, none⟩) m cc) rfl (fun ρ e W => ex_move (e _ _ rfl)) rfl rfl ?_
      refine wt1 (v := .int .i64 ((g m : Nat) : Int)) rfl (fun ρ e W => ex_move (e _ _ rfl)) rfl rfl ?_
      refine wt1 (v := .slice (some ⟨bl, ol + (s + g m), none⟩) (m - g m) (cc - g m)) rfl (fun ρ e W => ex_sliceLo (k := g m) (q := ol + (s + g m)) el36 (e _ _ rfl) (e _ _ rfl) (by omega) (by omega) (by omega)) rfl rfl ?_
      refine wt2_callv (args := [.slice (some ⟨bl, ol + s, none⟩) (g m) cc]) (all := [.slice (some ⟨bl, ol + s, none⟩) (g m) cc, .pointer (some ⟨lc, 0, none⟩), .pointer (some ⟨pc, 0, none⟩), .pointer (some ⟨oc, 0, none⟩)]) rfl in_76 rfl rfl rfl rfl rfl ?_
      have O27h := Own.hand (A := [.blk lc 75 #[.func (.func fl) #[] #[]], .blk pc 69 #[.func (.func 76) #[] #[.pointer (some ⟨lc, 0, none⟩), .pointer (some ⟨pc, 0, none⟩), .pointer (some ⟨oc, 0, none⟩)]], .blk oc 23 #[.slice A n c], .row (.slice A n c) 38 3 n (ncells l), .ro D (fun w => IntsD D w (.slice (some ⟨bl, ol, none⟩) L0.length cl) L0)]) (R := [.blk g6 38 #[.int .i64 (-1), .int .i64 (-1), .int .i64 v0]]) (O22.re [1, 2, 3, 4, 5, 0] rfl : Own Z w0 w19.drew [.blk lc 75 #[.func (.func fl) #[] #[]], .blk pc 69 #[.func (.func 76) #[] #[.pointer (some ⟨lc, 0, none⟩), .pointer (some ⟨pc, 0, none⟩), .pointer (some ⟨oc, 0, none⟩)]], .blk oc 23 #[.slice A n c], .row (.slice A n c) 38 3 n (ncells l), .ro D (fun w => IntsD D w (.slice (some ⟨bl, ol, none⟩) L0.length cl) L0), .blk g6 38 #[.int .i64 (-1), .int .i64 (-1), .int .i64 v0]])
      refine ((IH s (g m) cc (by omega) (by omega) (by omega) (by omega) _ _ _ _ _ _ l O27h (by omega))).mono ?_
      rintro _ w25 ⟨A23, c24, rfl, h26⟩
      have O27 : Own Z w0 w25 [.blk lc 75 #[.func (.func fl) #[] #[]], .blk pc 69 #[.func (.func 76) #[] #[.pointer (some ⟨lc, 0, none⟩), .pointer (some ⟨pc, 0, none⟩), .pointer (some ⟨oc, 0, none⟩)]], .blk oc 23 #[.slice A23 (n + Tr.size (mkT g k ((L0.drop s).take (g m)))) c24], .row (.slice A23 (n + Tr.size (mkT g k ((L0.drop s).take (g m)))) c24) 38 3 (n + Tr.size (mkT g k ((L0.drop s).take (g m)))) (ncells (l ++ post (mkT g k ((L0.drop s).take (g m))) n)), .ro D (fun w => IntsD D w (.slice (some ⟨bl, ol, none⟩) L0.length cl) L0), .blk g6 38 #[.int .i64 (-1), .int .i64 (-1), .int .i64 v0]] := Own.frame (A := [.blk lc 75 #[.func (.func fl) #[] #[]], .blk pc 69 #[.func (.func 76) #[] #[.pointer (some ⟨lc, 0, none⟩), .pointer (some ⟨pc, 0, none⟩), .pointer (some ⟨oc, 0, none⟩)]], .blk oc 23 #[.slice A n c], .row (.slice A n c) 38 3 n (ncells l), .ro D (fun w => IntsD D w (.slice (some ⟨bl, ol, none⟩) L0.length cl) L0)]) (R := [.blk g6 38 #[.int .i64 (-1), .int .i64 (-1), .int .i64 v0]]) (O22.re [1, 2, 3, 4, 5, 0] rfl : Own Z w0 w19.drew [.blk lc 75 #[.func (.func fl) #[] #[]], .blk pc 69 #[.func (.func 76) #[] #[.pointer (some ⟨lc, 0, none⟩), .pointer (some ⟨pc, 0, none⟩), .pointer (some ⟨oc, 0, none⟩)]], .blk oc 23 #[.slice A n c], .row (.slice A n c) 38 3 n (ncells l), .ro D (fun w => IntsD D w (.slice (some ⟨bl, ol, none⟩) L0.length cl) L0), .blk g6 38 #[.int .i64 (-1), .int .i64 (-1), .int .i64 v0]]) h26
      refine ⟨_, rfl, (O27.re [5, 0, 1, 4] rfl : Own Z w0 w25 [.blk g6 38 #[.int .i64 (-1), .int .i64 (-1), .int .i64 v0], .blk lc 75 #[.func (.func fl) #[] #[]], .blk pc 69 #[.func (.func 76) #[] #[.pointer (some ⟨lc, 0, none⟩), .pointer (some ⟨pc, 0, none⟩), .pointer (some ⟨oc, 0, none⟩)]], .ro D (fun w => IntsD D w (.slice (some ⟨bl, ol, none⟩) L0.length cl) L0)]), ?_⟩
      refine wt2_callv (args := [.slice (some ⟨bl, ol + (s + g m), none⟩) (m - g m) (cc - g m)]) (all := [.slice (some ⟨bl, ol + (s + g m), none⟩) (m - g m) (cc - g m), .pointer (some ⟨lc, 0, none⟩), .pointer (some ⟨pc, 0, none⟩), .pointer (some ⟨oc, 0, none⟩)]) rfl in_76 rfl rfl rfl rfl rfl ?_
      have O32h := Own.hand (A := [.blk lc 75 #[.func (.func fl) #[] #[]], .blk pc 69 #[.func (.func 76) #[] #[.pointer (some ⟨lc, 0, none⟩), .pointer (some ⟨pc, 0, none⟩), .pointer (some ⟨oc, 0, none⟩)]], .blk oc 23 #[.slice A23 (n + Tr.size (mkT g k ((L0.drop s).take (g m)))) c24], .row (.slice A23 (n + Tr.size (mkT g k ((L0.drop s).take (g m)))) c24) 38 3 (n + Tr.size (mkT g k ((L0.drop s).take (g m)))) (ncells (l ++ post (mkT g k ((L0.drop s).take (g m))) n)), .ro D (fun w => IntsD D w (.slice (some ⟨bl, ol, none⟩) L0.length cl) L0)]) (R := [.blk g6 38 #[.int .i64 (-1), .int .i64 (-1), .int .i64 v0]]) O27
      refine ((IH (s + g m) (m - g m) (cc - g m) (by omega) (by omega) (by omega) (by omega) _ _ _ _ _ _ (l ++ post (mkT g k ((L0.drop s).take (g m))) n) O32h (by omega))).mono ?_
      rintro _ w30 ⟨A28, c29, rfl, h31⟩
      have O32 : Own Z w0 w30 [.blk lc 75 #[.func (.func fl) #[] #[]], .blk pc 69 #[.func (.func 76) #[] #[.pointer (some ⟨lc, 0, none⟩), .pointer (some ⟨pc, 0, none⟩), .pointer (some ⟨oc, 0, none⟩)]], .blk oc 23 #[.slice A28 ((n + Tr.size (mkT g k ((L0.drop s).take (g m)))) + Tr.size (mkT g k ((L0.drop (s + g m)).take (m - g m)))) c29], .row (.slice A28 ((n + Tr.size (mkT g k ((L0.drop s).take (g m)))) + Tr.size (mkT g k ((L0.drop (s + g m)).take (m - g m)))) c29) 38 3 ((n + Tr.size (mkT g k ((L0.drop s).take (g m)))) + Tr.size (mkT g k ((L0.drop (s + g m)).take (m - g m)))) (ncells ((l ++ post (mkT g k ((L0.drop s).take (g m))) n) ++ post (mkT g k ((L0.drop (s + g m)).take (m - g m))) (n + Tr.size (mkT g k ((L0.drop s).take (g m)))))), .ro D (fun w => IntsD D w (.slice (some ⟨bl, ol, none⟩) L0.length cl) L0), .blk g6 38 #[.int .i64 (-1), .int .i64 (-1), .int .i64 v0]] := Own.frame (A := [.blk lc 75 #[.func (.func fl) #[] #[]], .blk pc 69 #[.func (.func 76) #[] #[.pointer (some ⟨lc, 0, none⟩), .pointer (some ⟨pc, 0, none⟩), .pointer (some ⟨oc, 0, none⟩)]], .blk oc 23 #[.slice A23 (n + Tr.size (mkT g k ((L0.drop s).take (g m)))) c24], .row (.slice A23 (n + Tr.size (mkT g k ((L0.drop s).take (g m)))) c24) 38 3 (n + Tr.size (mkT g k ((L0.drop s).take (g m)))) (ncells (l ++ post (mkT g k ((L0.drop s).take (g m))) n)), .ro D (fun w => IntsD D w (.slice (some ⟨bl, ol, none⟩) L0.length cl) L0)]) (R := [.blk g6 38 #[.int .i64 (-1), .int .i64 (-1), .int .i64 v0]]) O27 h31
      refine ⟨_, rfl, (O32.re [5, 0, 1, 4] rfl : Own Z w0 w30 [.blk g6 38 #[.int .i64 (-1), .int .i64 (-1), .int .i64 v0], .blk lc 75 #[.func (.func fl) #[] #[]], .blk pc 69 #[.func (.func 76) #[] #[.pointer (some ⟨lc, 0, none⟩), .pointer (some ⟨pc, 0, none⟩), .pointer (some ⟨oc, 0, none⟩)]], .ro D (fun w => IntsD D w (.slice (some ⟨bl, ol, none⟩) L0.length cl) L0)]), ?_⟩
      refine wt1 (v := .agg #[.int .i64 ((n + Tr.size (mkT g k ((L0.drop s).take (g m))) - 1 : Nat) : Int), .int .i64 (((n + Tr.size (mkT g k ((L0.drop s).take (g m)))) + Tr.size (mkT g k ((L0.drop (s + g m)).take (m - g m))) - 1 : Nat) : Int), .int .i64 0]) rfl (fun ρ e W => ex_build (cells := #[.int .i64 ((n + Tr.size (mkT g k ((L0.drop s).take (g m))) - 1 : Nat) : Int), .int .i64 (((n + Tr.size (mkT g k ((L0.drop s).take (g m)))) + Tr.size (mkT g k ((L0.drop (s + g m)).take (m - g m))) - 1 : Nat) : Int), .int .i64 0]) st38 (e.parts rfl) rfl) rfl rfl ?_
      obtain ⟨w33, r34, O35, hs36⟩ := own_put (o := 0) (n := 3) (O32.re [5, 0, 1, 2, 3, 4] rfl : Own Z w0 w30 [.blk g6 38 #[.int .i64 (-1), .int .i64 (-1), .int .i64 v0], .blk lc 75 #[.func (.func fl) #[] #[]], .blk pc 69 #[.func (.func 76) #[] #[.pointer (some ⟨lc, 0, none⟩), .pointer (some ⟨pc, 0, none⟩), .pointer (some ⟨oc, 0, none⟩)]], .blk oc 23 #[.slice A28 ((n + Tr.size (mkT g k ((L0.drop s).take (g m)))) + Tr.size (mkT g k ((L0.drop (s + g m)).take (m - g m)))) c29], .row (.slice A28 ((n + Tr.size (mkT g k ((L0.drop s).take (g m)))) + Tr.size (mkT g k ((L0.drop (s + g m)).take (m - g m)))) c29) 38 3 ((n + Tr.size (mkT g k ((L0.drop s).take (g m)))) + Tr.size (mkT g k ((L0.drop (s + g m)).take (m - g m)))) (ncells ((l ++ post (mkT g k ((L0.drop s).take (g m))) n) ++ post (mkT g k ((L0.drop (s + g m)).take (m - g m))) (n + Tr.size (mkT g k ((L0.drop s).take (g m)))))), .ro D (fun w => IntsD D w (.slice (some ⟨bl, ol, none⟩) L0.length cl) L0)]) ty38 (.agg #[.int .i64 ((n + Tr.size (mkT g k ((L0.drop s).take (g m))) - 1 : Nat) : Int), .int .i64 (((n + Tr.size (mkT g k ((L0.drop s).take (g m)))) + Tr.size (mkT g k ((L0.drop (s + g m)).take (m - g m))) - 1 : Nat) : Int), .int .i64 0]) [.int .i64 ((n + Tr.size (mkT g k ((L0.drop s).take (g m))) - 1 : Nat) : Int), .int .i64 (((n + Tr.size (mkT g k ((L0.drop s).take (g m)))) + Tr.size (mkT g k ((L0.drop (s + g m)).take (m - g m))) - 1 : Nat) : Int), .int .i64 0] (cs' := #[.int .i64 ((n + Tr.size (mkT g k ((L0.drop s).take (g m))) - 1 : Nat) : Int), .int .i64 (((n + Tr.size (mkT g k ((L0.drop s).take (g m)))) + Tr.size (mkT g k ((L0.drop (s + g m)).take (m - g m))) - 1 : Nat) : Int), .int .i64 0]) rfl rfl rfl (Nat.le_of_ble_eq_true rfl) rfl
      refine wt3_none rfl (fun ρ e => r34 ρ _ _ _ _ _ _ (e _ _ rfl) (e _ _ rfl)) rfl ?_
      refine wt_nil ?_
      refine xw_next K16 ?_
      refine cw_seq (fun FK37 K37 => ?_)
      refine cw_region ?_
      refine wl_val (v := .slice A28 ((n + Tr.size (mkT g k ((L0.drop s).take (g m)))) + Tr.size (mkT g k ((L0.drop (s + g m)).take (m - g m)))) c29) (fun ρ e => ex_load1 ty23 (e _ _ rfl) (O35.cell 3 0 rfl rfl)) rfl rfl ?_
      refine wl_val (v := .agg #[.int .i64 ((n + Tr.size (mkT g k ((L0.drop s).take (g m))) - 1 : Nat) : Int), .int .i64 (((n + Tr.size (mkT g k ((L0.drop s).take (g m)))) + Tr.size (mkT g k ((L0.drop (s + g m)).take (m - g m))) - 1 : Nat) : Int), .int .i64 0]) (fun ρ e => ex_loadN (vs := [.int .i64 ((n + Tr.size (mkT g k ((L0.drop s).take (g m))) - 1 : Nat) : Int), .int .i64 (((n + Tr.size (mkT g k ((L0.drop s).take (g m)))) + Tr.size (mkT g k ((L0.drop (s + g m)).take (m - g m))) - 1 : Nat) : Int), .int .i64 0]) ty38 (e _ _ rfl) rfl (O35.cells 0 0 rfl rfl)) rfl rfl ?_
      obtain ⟨g38, w39, r40, O41, hg42, hs43⟩ := own_slice O35 el23 ze38 1 [(0, .agg #[.int .i64 ((n + Tr.size (mkT g k ((L0.drop s).take (g m))) - 1 : Nat) : Int), .int .i64 (((n + Tr.size (mkT g k ((L0.drop s).take (g m)))) + Tr.size (mkT g k ((L0.drop (s + g m)).take (m - g m))) - 1 : Nat) : Int), .int .i64 0])] (cs := #[.int .i64 ((n + Tr.size (mkT g k ((L0.drop s).take (g m))) - 1 : Nat) : Int), .int .i64 (((n + Tr.size (mkT g k ((L0.drop s).take (g m)))) + Tr.size (mkT g k ((L0.drop (s + g m)).take (m - g m))) - 1 : Nat) : Int), .int .i64 0]) (by decide) (by kernel_rfl)
      refine wl_val (v := .slice (some ⟨g38, 0, none⟩) 1 1) (fun ρ e => r40 ρ _ _ _ _ _ _ (e.parts rfl)) rfl rfl ?_
      obtain ⟨A44, c45, w46, r47, O48, hz49, hc50⟩ := own_app1 (O41.re [5, 0, 1, 2, 3, 4, 6] rfl : Own Z w0 w39 [.row (.slice A28 ((n + Tr.size (mkT g k ((L0.drop s).take (g m)))) + Tr.size (mkT g k ((L0.drop (s + g m)).take (m - g m)))) c29) 38 3 ((n + Tr.size (mkT g k ((L0.drop s).take (g m)))) + Tr.size (mkT g k ((L0.drop (s + g m)).take (m - g m)))) (ncells ((l ++ post (mkT g k ((L0.drop s).take (g m))) n) ++ post (mkT g k ((L0.drop (s + g m)).take (m - g m))) (n + Tr.size (mkT g k ((L0.drop s).take (g m)))))), .blk g38 38 #[.int .i64 ((n + Tr.size (mkT g k ((L0.drop s).take (g m))) - 1 : Nat) : Int), .int .i64 (((n + Tr.size (mkT g k ((L0.drop s).take (g m)))) + Tr.size (mkT g k ((L0.drop (s + g m)).take (m - g m))) - 1 : Nat) : Int), .int .i64 0], .blk g6 38 #[.int .i64 ((n + Tr.size (mkT g k ((L0.drop s).take (g m))) - 1 : Nat) : Int), .int .i64 (((n + Tr.size (mkT g k ((L0.drop s).take (g m)))) + Tr.size (mkT g k ((L0.drop (s + g m)).take (m - g m))) - 1 : Nat) : Int), .int .i64 0], .blk lc 75 #[.func (.func fl) #[] #[]], .blk pc 69 #[.func (.func 76) #[] #[.pointer (some ⟨lc, 0, none⟩), .pointer (some ⟨pc, 0, none⟩), .pointer (some ⟨oc, 0, none⟩)]], .blk oc 23 #[.slice A28 ((n + Tr.size (mkT g k ((L0.drop s).take (g m)))) + Tr.size (mkT g k ((L0.drop (s + g m)).take (m - g m)))) c29], .ro D (fun w => IntsD D w (.slice (some ⟨bl, ol, none⟩) L0.length cl) L0)]) ap23 ((O41.re [5, 0, 1, 2, 3, 4, 6] rfl : Own Z w0 w39 [.row (.slice A28 ((n + Tr.size (mkT g k ((L0.drop s).take (g m)))) + Tr.size (mkT g k ((L0.drop (s + g m)).take (m - g m)))) c29) 38 3 ((n + Tr.size (mkT g k ((L0.drop s).take (g m)))) + Tr.size (mkT g k ((L0.drop (s + g m)).take (m - g m)))) (ncells ((l ++ post (mkT g k ((L0.drop s).take (g m))) n) ++ post (mkT g k ((L0.drop (s + g m)).take (m - g m))) (n + Tr.size (mkT g k ((L0.drop s).take (g m)))))), .blk g38 38 #[.int .i64 ((n + Tr.size (mkT g k ((L0.drop s).take (g m))) - 1 : Nat) : Int), .int .i64 (((n + Tr.size (mkT g k ((L0.drop s).take (g m)))) + Tr.size (mkT g k ((L0.drop (s + g m)).take (m - g m))) - 1 : Nat) : Int), .int .i64 0], .blk g6 38 #[.int .i64 ((n + Tr.size (mkT g k ((L0.drop s).take (g m))) - 1 : Nat) : Int), .int .i64 (((n + Tr.size (mkT g k ((L0.drop s).take (g m)))) + Tr.size (mkT g k ((L0.drop (s + g m)).take (m - g m))) - 1 : Nat) : Int), .int .i64 0], .blk lc 75 #[.func (.func fl) #[] #[]], .blk pc 69 #[.func (.func 76) #[] #[.pointer (some ⟨lc, 0, none⟩), .pointer (some ⟨pc, 0, none⟩), .pointer (some ⟨oc, 0, none⟩)]], .blk oc 23 #[.slice A28 ((n + Tr.size (mkT g k ((L0.drop s).take (g m)))) + Tr.size (mkT g k ((L0.drop (s + g m)).take (m - g m)))) c29], .ro D (fun w => IntsD D w (.slice (some ⟨bl, ol, none⟩) L0.length cl) L0)]).blk 1 rfl) (cells := [.int .i64 ((n + Tr.size (mkT g k ((L0.drop s).take (g m))) - 1 : Nat) : Int), .int .i64 (((n + Tr.size (mkT g k ((L0.drop s).take (g m)))) + Tr.size (mkT g k ((L0.drop (s + g m)).take (m - g m))) - 1 : Nat) : Int), .int .i64 0]) rfl rfl (by omega) (by omega) (ys := (ncells (((l ++ post (mkT g k ((L0.drop s).take (g m))) n) ++ post (mkT g k ((L0.drop (s + g m)).take (m - g m))) (n + Tr.size (mkT g k ((L0.drop s).take (g m))))) ++ [(VN.mk ((n + Tr.size (mkT g k ((L0.drop s).take (g m))) - 1 : Nat) : Int) (((n + Tr.size (mkT g k ((L0.drop s).take (g m)))) + Tr.size (mkT g k ((L0.drop (s + g m)).take (m - g m))) - 1 : Nat) : Int) 0)]))) (ncells_snoc ((l ++ post (mkT g k ((L0.drop s).take (g m))) n) ++ post (mkT g k ((L0.drop (s + g m)).take (m - g m))) (n + Tr.size (mkT g k ((L0.drop s).take (g m))))) (VN.mk ((n + Tr.size (mkT g k ((L0.drop s).take (g m))) - 1 : Nat) : Int) (((n + Tr.size (mkT g k ((L0.drop s).take (g m)))) + Tr.size (mkT g k ((L0.drop (s + g m)).take (m - g m))) - 1 : Nat) : Int) 0))
      refine wl_val (v := .slice A44 (((n + Tr.size (mkT g k ((L0.drop s).take (g m)))) + Tr.size (mkT g k ((L0.drop (s + g m)).take (m - g m)))) + 1) c45) (fun ρ e => r47 ρ _ _ _ _ _ _ _ (e _ _ rfl) (e _ _ rfl)) rfl rfl ?_
      obtain ⟨w51, r52, O53, hs54⟩ := own_put (o := 0) (n := 1) (O48.re [5, 0, 1, 2, 3, 4, 6] rfl : Own Z w0 w46 [.blk oc 23 #[.slice A28 ((n + Tr.size (mkT g k ((L0.drop s).take (g m)))) + Tr.size (mkT g k ((L0.drop (s + g m)).take (m - g m)))) c29], .row (.slice A44 (((n + Tr.size (mkT g k ((L0.drop s).take (g m)))) + Tr.size (mkT g k ((L0.drop (s + g m)).take (m - g m)))) + 1) c45) 38 3 (((n + Tr.size (mkT g k ((L0.drop s).take (g m)))) + Tr.size (mkT g k ((L0.drop (s + g m)).take (m - g m)))) + 1) (ncells (((l ++ post (mkT g k ((L0.drop s).take (g m))) n) ++ post (mkT g k ((L0.drop (s + g m)).take (m - g m))) (n + Tr.size (mkT g k ((L0.drop s).take (g m))))) ++ [(VN.mk ((n + Tr.size (mkT g k ((L0.drop s).take (g m))) - 1 : Nat) : Int) (((n + Tr.size (mkT g k ((L0.drop s).take (g m)))) + Tr.size (mkT g k ((L0.drop (s + g m)).take (m - g m))) - 1 : Nat) : Int) 0)])), .blk g38 38 #[.int .i64 ((n + Tr.size (mkT g k ((L0.drop s).take (g m))) - 1 : Nat) : Int), .int .i64 (((n + Tr.size (mkT g k ((L0.drop s).take (g m)))) + Tr.size (mkT g k ((L0.drop (s + g m)).take (m - g m))) - 1 : Nat) : Int), .int .i64 0], .blk g6 38 #[.int .i64 ((n + Tr.size (mkT g k ((L0.drop s).take (g m))) - 1 : Nat) : Int), .int .i64 (((n + Tr.size (mkT g k ((L0.drop s).take (g m)))) + Tr.size (mkT g k ((L0.drop (s + g m)).take (m - g m))) - 1 : Nat) : Int), .int .i64 0], .blk lc 75 #[.func (.func fl) #[] #[]], .blk pc 69 #[.func (.func 76) #[] #[.pointer (some ⟨lc, 0, none⟩), .pointer (some ⟨pc, 0, none⟩), .pointer (some ⟨oc, 0, none⟩)]], .ro D (fun w => IntsD D w (.slice (some ⟨bl, ol, none⟩) L0.length cl) L0)]) ty23 (.slice A44 (((n + Tr.size (mkT g k ((L0.drop s).take (g m)))) + Tr.size (mkT g k ((L0.drop (s + g m)).take (m - g m)))) + 1) c45) [.slice A44 (((n + Tr.size (mkT g k ((L0.drop s).take (g m)))) + Tr.size (mkT g k ((L0.drop (s + g m)).take (m - g m)))) + 1) c45] (cs' := #[.slice A44 (((n + Tr.size (mkT g k ((L0.drop s).take (g m)))) + Tr.size (mkT g k ((L0.drop (s + g m)).take (m - g m)))) + 1) c45]) rfl rfl rfl (Nat.le_of_ble_eq_true rfl) rfl
      refine wl_none (fun ρ e => r52 ρ _ _ _ _ _ _ (e _ _ rfl) (e _ _ rfl)) rfl ?_
      refine wl_nil ?_
      refine xw_next K37 ?_
      refine cw_seq (fun FK55 K55 => ?_)
      refine cw_region ?_
      refine wl_val (v := .slice A44 (((n + Tr.size (mkT g k ((L0.drop s).take (g m)))) + Tr.size (mkT g k ((L0.drop (s + g m)).take (m - g m)))) + 1) c45) (fun ρ e => ex_load1 ty23 (e _ _ rfl) (O53.cell 0 0 rfl rfl)) rfl rfl ?_
      refine wl_val (v := .int .i64 ((((n + Tr.size (mkT g k ((L0.drop s).take (g m)))) + Tr.size (mkT g k ((L0.drop (s + g m)).take (m - g m)))) + 1 : Nat) : Int)) (fun ρ e => ex_len el23 (e _ _ rfl)) rfl rfl ?_
      refine wl_val (v := .int .i64 ((((n + Tr.size (mkT g k ((L0.drop s).take (g m)))) + Tr.size (mkT g k ((L0.drop (s + g m)).take (m - g m)))) + 1 - 1 : Nat) : Int)) (fun ρ e => ex_arith (k := .i64) (u := ((((n + Tr.size (mkT g k ((L0.drop s).take (g m)))) + Tr.size (mkT g k ((L0.drop (s + g m)).take (m - g m)))) + 1 : Nat) : Int)) (v := 1) (e _ _ rfl) (e _ _ rfl) (congrArg some ((congrArg _ (show _ = ((((n + Tr.size (mkT g k ((L0.drop s).take (g m)))) + Tr.size (mkT g k ((L0.drop (s + g m)).take (m - g m)))) + 1 - 1 : Nat) : Int) by omega)).trans (wrap_in (by omega) (by omega))))) rfl rfl ?_
      refine wl_val (v := .int .i64 ((((n + Tr.size (mkT g k ((L0.drop s).take (g m)))) + Tr.size (mkT g k ((L0.drop (s + g m)).take (m - g m)))) + 1 - 1 : Nat) : Int)) (fun ρ e => ex_assign (e _ _ rfl)) rfl rfl ?_
      refine wl_nil ?_
      refine xw_next K55 ?_
      refine cw_ret ?_
      refine xw_ret (v := .int .i64 ((((n + Tr.size (mkT g k ((L0.drop s).take (g m)))) + Tr.size (mkT g k ((L0.drop (s + g m)).take (m - g m)))) + 1 - 1 : Nat) : Int)) (fun T hT => res1 rfl T _ (hT 5 _ rfl)) ?_
      have hn : ((n + Tr.size (mkT g k ((L0.drop s).take (g m)))) + Tr.size (mkT g k ((L0.drop (s + g m)).take (m - g m)))) + 1 = n + Tr.size (mkT g (k + 1) ((L0.drop s).take m)) := by rw [hT]; simp only [Tr.size] <;> omega
      have hl : (((l ++ post (mkT g k ((L0.drop s).take (g m))) n) ++ post (mkT g k ((L0.drop (s + g m)).take (m - g m))) (n + Tr.size (mkT g k ((L0.drop s).take (g m))))) ++ [(VN.mk ((n + Tr.size (mkT g k ((L0.drop s).take (g m))) - 1 : Nat) : Int) (((n + Tr.size (mkT g k ((L0.drop s).take (g m)))) + Tr.size (mkT g k ((L0.drop (s + g m)).take (m - g m))) - 1 : Nat) : Int) 0)]) = l ++ post (mkT g (k + 1) ((L0.drop s).take m)) n := by rw [hT]; simp [post]
      have hO := (O53.re [4, 5, 0, 1, 6] rfl : Own Z w0 w51 [.blk lc 75 #[.func (.func fl) #[] #[]], .blk pc 69 #[.func (.func 76) #[] #[.pointer (some ⟨lc, 0, none⟩), .pointer (some ⟨pc, 0, none⟩), .pointer (some ⟨oc, 0, none⟩)]], .blk oc 23 #[.slice A44 (((n + Tr.size (mkT g k ((L0.drop s).take (g m)))) + Tr.size (mkT g k ((L0.drop (s + g m)).take (m - g m)))) + 1) c45], .row (.slice A44 (((n + Tr.size (mkT g k ((L0.drop s).take (g m)))) + Tr.size (mkT g k ((L0.drop (s + g m)).take (m - g m)))) + 1) c45) 38 3 (((n + Tr.size (mkT g k ((L0.drop s).take (g m)))) + Tr.size (mkT g k ((L0.drop (s + g m)).take (m - g m)))) + 1) (ncells (((l ++ post (mkT g k ((L0.drop s).take (g m))) n) ++ post (mkT g k ((L0.drop (s + g m)).take (m - g m))) (n + Tr.size (mkT g k ((L0.drop s).take (g m))))) ++ [(VN.mk ((n + Tr.size (mkT g k ((L0.drop s).take (g m))) - 1 : Nat) : Int) (((n + Tr.size (mkT g k ((L0.drop s).take (g m)))) + Tr.size (mkT g k ((L0.drop (s + g m)).take (m - g m))) - 1 : Nat) : Int) 0)])), .ro D (fun w => IntsD D w (.slice (some ⟨bl, ol, none⟩) L0.length cl) L0)])
      rw [hn, hl] at hO
      exact ⟨A44, c45, congrArg (fun z : Nat => Ending.returned (.int .i64 (z : Int))) (show ((n + Tr.size (mkT g k ((L0.drop s).take (g m)))) + Tr.size (mkT g k ((L0.drop (s + g m)).take (m - g m)))) + 1 - 1 = n + Tr.size (mkT g (k + 1) ((L0.drop s).take m)) - 1 by rw [hT]; simp only [Tr.size] <;> omega), hO⟩
theorem orderedb_ {W : World} {D : Nat → Prop} {V : Value} {l : List Int} (hI : IntsD D W V l) (hD : ∀ k, D k → k < W.heap.size) (hsz : l.length ≤ 1000000) {r : Bool} (h : ordB l = r) :
    Calls Tryd.prog 75 #[V] W fun e w' => e = .returned (.bool r) ∧ Below W.heap.size W w' := h ▸ ordered_ hI hD hsz
theorem range_few {l : List Int} (h : opreB l = true) : l.length ≤ 128 := by
  obtain ⟨h1, h2⟩ := opreB_iff.1 h
  have h3 : (l.map fun v => v - 1).Nodup := by
    rw [List.nodup_iff_pairwise_ne, List.pairwise_map]
    exact (List.nodup_iff_pairwise_ne.1 h2).imp (fun h e => h (by omega))
  have := range_len (n := 128) h3 (fun x hx => by
    obtain ⟨v, hv, rfl⟩ := List.mem_map.1 hx
    have := h1 v hv
    omega)
  simpa using this
theorem IntsD.cap {D : Nat → Prop} {w : World} {A : Option Addr} {n c : Nat} {xs : List Int} (h : IntsD D w (.slice A n c) xs) : xs.length ≤ c := by
  obtain ⟨A', c', h1, h2, _⟩ := h
  injection h1 with _ _ h1
  omega
theorem build_ {W : World} {D : Nat → Prop} {V : Value} {L0 : List Int} (hI : IntsD D W V L0) (hD : ∀ k, D k → k < W.heap.size) (hsz : L0.length ≤ 1000000) {kind : Nat} {g : Nat → Nat} (hgk : g = gOf kind) {fl : FuncId} (hin : Enters Tryd.prog fl) (HL : ∀ (m : Nat) (W : World), 2 ≤ m → m ≤ 1000000 → Calls Tryd.prog fl #[.int .i64 (m : Int)] W fun e w' => e = .returned (.int .i64 ((g m : Nat) : Int)) ∧ Below W.heap.size W w') (hg : ∀ m, 2 ≤ m → 1 ≤ g m ∧ g m < m) :
    Calls Tryd.prog 54 #[V, .func (.func fl) #[] #[]] W fun e w' => ∃ A' c', e = .returned (.tuple #[.slice A' (makeOf kind L0).1.length c', .int .i64 (makeOf kind L0).2]) ∧ Own Z0 W w' [.row (.slice A' (makeOf kind L0).1.length c') 38 3 (makeOf kind L0).1.length (ncells (makeOf kind L0).1)] := by
  obtain ⟨A, cl, rfl⟩ := hI.slice
  have O0 : Own Z0 W W [] := Own.start W
  refine sx_enter (args := [.slice A L0.length cl, .func (.func fl) #[] #[]]) Tryd.func54 rfl rfl (by simp) ?_
  refine cw_seq (fun FK1 K1 => ?_)
  refine cw_region ?_
  obtain ⟨g2, w3, r4, O5, hg6, hs7⟩ := own_box O0 75 (.func (.func fl) #[] #[]) rfl
  refine wl_val (v := .pointer (some ⟨g2, 0, none⟩)) (fun ρ e => r4 ρ _ _ _ _ _ _ (e _ _ rfl)) rfl rfl ?_
  refine wl_val (v := .slice none 0 0) (fun ρ e => ex_assign (e _ _ rfl)) rfl rfl ?_
  refine wl_val (v := .int .i64 0) (fun ρ e => ex_assign (e _ _ rfl)) rfl rfl ?_
  refine wl_nil ?_
  refine xw_next K1 ?_
  refine cw_seq (fun FK8 K8 => ?_)
  refine cw_seq (fun FK9 K9 => ?_)
  refine cw_region ?_
  refine wl_val (v := .slice A L0.length cl) (fun ρ e => ex_move (e _ _ rfl)) rfl rfl ?_
  by_cases c10 : (ordB L0) = true
  · skip
    have hlp := (ordB_iff.1 c10).1
    have hl128 := range_few (ordB_iff.1 c10).2
    obtain ⟨bl, ol, c', hv0⟩ := hI.form hlp
    injection hv0 with hA _ hc
    subst hA hc
    have hcl : L0.length ≤ cl := hI.cap
    have O11 := O5.oldro (D := D) (p := (fun w => IntsD D w (.slice (some ⟨bl, ol, none⟩) L0.length cl) L0)) (inE_holds hI hD)
    refine wl_call (args := [.slice (some ⟨bl, ol, none⟩) L0.length cl]) in_75 rfl rfl rfl ?_
    refine (orderedb_ (hI.move (fun k hk => (O11.old).block k (hD k hk))) (fun k hk => Nat.lt_of_lt_of_le (hD k hk) (O11.old).size) (by omega) (show ordB L0 = true from c10)).mono ?_
    rintro _ w12 ⟨rfl, hb13⟩
    have O14 : Own Z0 W w12 [.ro D (fun w => IntsD D w (.slice (some ⟨bl, ol, none⟩) L0.length cl) L0), .blk g2 75 #[.func (.func fl) #[] #[]]] := O11.below hb13
    refine ⟨_, rfl, ?_⟩
    refine wl_val (v := .bool false) (fun ρ e => ex_lnot (b := true) (e _ _ rfl)) rfl rfl ?_
    refine wl_nil ?_
    refine xw_next K9 ?_
    refine cw_false rfl ?_
    refine cw_skip ?_
    refine xw_next K8 ?_
    refine cw_seq (fun FK15 K15 => ?_)
    refine cw_region ?_
    obtain ⟨g16, w17, r18, O19, hg20, hs21⟩ := own_alloc O14 23 ze23 rfl
    refine wl_val (v := .pointer (some ⟨g16, 0, none⟩)) (fun ρ e => r18 ρ _ _ _ _ _) rfl rfl ?_
    refine wl_nil ?_
    refine xw_next K15 ?_
    refine cw_seq (fun FK22 K22 => ?_)
    refine cw_region ?_
    obtain ⟨g23, w24, r25, O26, hg27, hs28⟩ := own_alloc O19 69 ze69 rfl
    refine wl_val (v := .pointer (some ⟨g23, 0, none⟩)) (fun ρ e => r25 ρ _ _ _ _ _) rfl rfl ?_
    refine wl_nil ?_
    refine xw_next K22 ?_
    refine cw_seq (fun FK29 K29 => ?_)
    refine cw_region ?_
    refine wl_val (v := .func (.func 76) #[] #[.pointer (some ⟨g2, 0, none⟩), .pointer (some ⟨g23, 0, none⟩), .pointer (some ⟨g16, 0, none⟩)]) (fun ρ e => ex_func (us := []) (vs := [.pointer (some ⟨g2, 0, none⟩), .pointer (some ⟨g23, 0, none⟩), .pointer (some ⟨g16, 0, none⟩)]) (e.list rfl) (e.list rfl)) rfl rfl ?_
    obtain ⟨w30, r31, O32, hs33⟩ := own_put (o := 0) (n := 1) O26 ty69 (.func (.func 76) #[] #[.pointer (some ⟨g2, 0, none⟩), .pointer (some ⟨g23, 0, none⟩), .pointer (some ⟨g16, 0, none⟩)]) [.func (.func 76) #[] #[.pointer (some ⟨g2, 0, none⟩), .pointer (some ⟨g23, 0, none⟩), .pointer (some ⟨g16, 0, none⟩)]] (cs' := #[.func (.func 76) #[] #[.pointer (some ⟨g2, 0, none⟩), .pointer (some ⟨g23, 0, none⟩), .pointer (some ⟨g16, 0, none⟩)]]) rfl rfl rfl (Nat.le_of_ble_eq_true rfl) rfl
    refine wl_none (fun ρ e => r31 ρ _ _ _ _ _ _ (e _ _ rfl) (e _ _ rfl)) rfl ?_
    refine wl_nil ?_
    refine xw_next K29 ?_
    refine cw_seq (fun FK34 K34 => ?_)
    refine cw_region ?_
    refine wl_val (v := .func (.func 76) #[] #[.pointer (some ⟨g2, 0, none⟩), .pointer (some ⟨g23, 0, none⟩), .pointer (some ⟨g16, 0, none⟩)]) (fun ρ e => ex_load1 ty69 (e _ _ rfl) (O32.cell 0 0 rfl rfl)) rfl rfl ?_
    refine wl_val (v := .slice (some ⟨bl, ol, none⟩) L0.length cl) (fun ρ e => ex_move (e _ _ rfl)) rfl rfl ?_
    refine wl_callv (args := [.slice (some ⟨bl, ol, none⟩) L0.length cl]) (all := [.slice (some ⟨bl, ol, none⟩) L0.length cl, .pointer (some ⟨g2, 0, none⟩), .pointer (some ⟨g23, 0, none⟩), .pointer (some ⟨g16, 0, none⟩)]) in_76 rfl rfl rfl rfl rfl ?_
    have O35 : Own Z0 W w30 [.row (.slice none 0 0) 38 3 0 (ncells []), .blk g23 69 #[.func (.func 76) #[] #[.pointer (some ⟨g2, 0, none⟩), .pointer (some ⟨g23, 0, none⟩), .pointer (some ⟨g16, 0, none⟩)]], .blk g16 23 #[.slice none 0 0], .ro D (fun w => IntsD D w (.slice (some ⟨bl, ol, none⟩) L0.length cl) L0), .blk g2 75 #[.func (.func fl) #[] #[]]] := O32.nilrow 38 3
    have O40h := Own.hand (A := [.blk g2 75 #[.func (.func fl) #[] #[]], .blk g23 69 #[.func (.func 76) #[] #[.pointer (some ⟨g2, 0, none⟩), .pointer (some ⟨g23, 0, none⟩), .pointer (some ⟨g16, 0, none⟩)]], .blk g16 23 #[.slice none 0 0], .row (.slice none 0 0) 38 3 0 (ncells []), .ro D (fun w => IntsD D w (.slice (some ⟨bl, ol, none⟩) L0.length cl) L0)]) (R := []) (O35.re [4, 1, 2, 0, 3] rfl : Own Z0 W w30 [.blk g2 75 #[.func (.func fl) #[] #[]], .blk g23 69 #[.func (.func 76) #[] #[.pointer (some ⟨g2, 0, none⟩), .pointer (some ⟨g23, 0, none⟩), .pointer (some ⟨g16, 0, none⟩)]], .blk g16 23 #[.slice none 0 0], .row (.slice none 0 0) 38 3 0 (ncells []), .ro D (fun w => IntsD D w (.slice (some ⟨bl, ol, none⟩) L0.length cl) L0)])
    have hwh : (L0.drop 0).take L0.length = L0 := by rw [List.drop_zero, List.take_length]
    have hpt := (part_ hin HL hg L0.length 0 L0.length cl (by omega) (by omega) (by omega) hcl _ _ _ _ _ _ [] O40h (by omega))
    rw [hwh] at hpt
    refine (hpt).mono ?_
    rintro _ w38 ⟨A36, c37, rfl, h39⟩
    have O40 : Own Z0 W w38 [.blk g2 75 #[.func (.func fl) #[] #[]], .blk g23 69 #[.func (.func 76) #[] #[.pointer (some ⟨g2, 0, none⟩), .pointer (some ⟨g23, 0, none⟩), .pointer (some ⟨g16, 0, none⟩)]], .blk g16 23 #[.slice A36 (0 + Tr.size (mkT g L0.length L0)) c37], .row (.slice A36 (0 + Tr.size (mkT g L0.length L0)) c37) 38 3 (0 + Tr.size (mkT g L0.length L0)) (ncells ([] ++ post (mkT g L0.length L0) 0)), .ro D (fun w => IntsD D w (.slice (some ⟨bl, ol, none⟩) L0.length cl) L0)] := Own.frame (A := [.blk g2 75 #[.func (.func fl) #[] #[]], .blk g23 69 #[.func (.func 76) #[] #[.pointer (some ⟨g2, 0, none⟩), .pointer (some ⟨g23, 0, none⟩), .pointer (some ⟨g16, 0, none⟩)]], .blk g16 23 #[.slice none 0 0], .row (.slice none 0 0) 38 3 0 (ncells []), .ro D (fun w => IntsD D w (.slice (some ⟨bl, ol, none⟩) L0.length cl) L0)]) (R := []) (O35.re [4, 1, 2, 0, 3] rfl : Own Z0 W w30 [.blk g2 75 #[.func (.func fl) #[] #[]], .blk g23 69 #[.func (.func 76) #[] #[.pointer (some ⟨g2, 0, none⟩), .pointer (some ⟨g23, 0, none⟩), .pointer (some ⟨g16, 0, none⟩)]], .blk g16 23 #[.slice none 0 0], .row (.slice none 0 0) 38 3 0 (ncells []), .ro D (fun w => IntsD D w (.slice (some ⟨bl, ol, none⟩) L0.length cl) L0)]) h39
    refine ⟨_, rfl, ?_⟩
    refine wl_nil ?_
    refine xw_next K34 ?_
    refine cw_seq (fun FK41 K41 => ?_)
    refine cw_region ?_
    refine wl_val (v := .slice A36 (0 + Tr.size (mkT g L0.length L0)) c37) (fun ρ e => ex_load1 ty23 (e _ _ rfl) (O40.cell 2 0 rfl rfl)) rfl rfl ?_
    refine wl_val (v := .slice A36 (0 + Tr.size (mkT g L0.length L0)) c37) (fun ρ e => ex_assign (e _ _ rfl)) rfl rfl ?_
    refine wl_val (v := .int .i64 0) (fun ρ e => ex_assign (e _ _ rfl)) rfl rfl ?_
    refine wl_nil ?_
    refine xw_next K41 ?_
    refine cw_ret ?_
    refine xw_ret (v := .tuple #[.slice A36 (0 + Tr.size (mkT g L0.length L0)) c37, .int .i64 0]) (fun T hT => res2 rfl T _ (hT 4 _ rfl) (hT 5 _ rfl)) ?_
    have hm : makeOf kind L0 = (post (mkT g L0.length L0) 0, 0) := by unfold makeOf; rw [c10, ← hgk]; rfl
    rw [hm]
    simp only [post_len]
    have hO := (O40.re [3] rfl : Own Z0 W w38 [.row (.slice A36 (0 + Tr.size (mkT g L0.length L0)) c37) 38 3 (0 + Tr.size (mkT g L0.length L0)) (ncells ([] ++ post (mkT g L0.length L0) 0))])
    rw [Nat.zero_add, List.nil_append] at hO
    exact ⟨A36, c37, by rw [Nat.zero_add], hO⟩
  · skip
    refine wl_call (args := [.slice A L0.length cl]) in_75 rfl rfl rfl ?_
    refine (orderedb_ (hI.move (fun k hk => (O5.old).block k (hD k hk))) (fun k hk => Nat.lt_of_lt_of_le (hD k hk) (O5.old).size) (by omega) (show ordB L0 = false from Bool.eq_false_iff.2 c10)).mono ?_
    rintro _ w42 ⟨rfl, hb43⟩
    have O44 : Own Z0 W w42 [.blk g2 75 #[.func (.func fl) #[] #[]]] := O5.below hb43
    refine ⟨_, rfl, ?_⟩
    refine wl_val (v := .bool true) (fun ρ e => ex_lnot (b := false) (e _ _ rfl)) rfl rfl ?_
    refine wl_nil ?_
    refine xw_next K9 ?_
    refine cw_true rfl ?_
    refine cw_seq (fun FK45 K45 => ?_)
    refine cw_region ?_
    refine wl_val (v := .slice none 0 0) (fun ρ e => ex_assign (e _ _ rfl)) rfl rfl ?_
    refine wl_val (v := .int .i64 1) (fun ρ e => ex_assign (e _ _ rfl)) rfl rfl ?_
    refine wl_nil ?_
    refine xw_next K45 ?_
    refine cw_ret ?_
    refine xw_past (by intro h; cases h) ?_
    refine xw_ret (v := .tuple #[.slice none 0 0, .int .i64 1]) (fun T hT => res2 rfl T _ (hT 4 _ rfl) (hT 5 _ rfl)) ?_
    have hm : makeOf kind L0 = ([], 1) := by unfold makeOf; rw [Bool.eq_false_iff.2 c10]; rfl
    rw [hm]
    have O46 := O44.nilrow 38 3
    exact ⟨none, 0, rfl, O46.re [0] rfl⟩
theorem right_ {W : World} {D : Nat → Prop} {V : Value} {L0 : List Int} (hI : IntsD D W V L0) (hD : ∀ k, D k → k < W.heap.size) (hsz : L0.length ≤ 1000000) :
    Calls Tryd.prog 24 #[V] W fun e w' => ∃ A' c', e = .returned (.tuple #[.slice A' (makeOf 1 L0).1.length c', .int .i64 (makeOf 1 L0).2]) ∧ Own Z0 W w' [.row (.slice A' (makeOf 1 L0).1.length c') 38 3 (makeOf 1 L0).1.length (ncells (makeOf 1 L0).1)] := by
  obtain ⟨A, cl, rfl⟩ := hI.slice
  have O0 : Own Z0 W W [] := Own.start W
  refine sx_enter (args := [.slice A L0.length cl]) Tryd.func24 rfl rfl (by simp) ?_
  refine cw_seq (fun FK1 K1 => ?_)
  refine cw_region ?_
  refine wl_val (v := .slice none 0 0) (fun ρ e => ex_assign (e _ _ rfl)) rfl rfl ?_
  refine wl_val (v := .int .i64 0) (fun ρ e => ex_assign (e _ _ rfl)) rfl rfl ?_
  refine wl_nil ?_
  refine xw_next K1 ?_
  refine cw_seq (fun FK2 K2 => ?_)
  refine cw_region ?_
  refine wl_val (v := .slice A L0.length cl) (fun ρ e => ex_move (e _ _ rfl)) rfl rfl ?_
  refine wl_call (args := [.slice A L0.length cl, .func (.func 55) #[] #[]]) in_54 rfl rfl rfl ?_
  refine (build_ (kind := 1) (hI.move (fun k hk => (O0.old).block k (hD k hk))) (fun k hk => Nat.lt_of_lt_of_le (hD k hk) (O0.old).size) hsz rfl in_55 (fun m W h h2 => part55 h h2) (gOf_good 1)).mono ?_
  rintro _ w5 ⟨A3, c4, rfl, h6⟩
  have O7 := O0.join1 h6 trivial
  refine ⟨_, rfl, ?_⟩
  refine wl_val (v := .slice A3 ((makeOf 1 L0).1.length) c4) (fun ρ e => ex_extract (vs := #[.slice A3 ((makeOf 1 L0).1.length) c4, .int .i64 ((makeOf 1 L0).2)]) (e _ _ rfl) rfl) rfl rfl ?_
  refine wl_val (v := .int .i64 ((makeOf 1 L0).2)) (fun ρ e => ex_extract (vs := #[.slice A3 ((makeOf 1 L0).1.length) c4, .int .i64 ((makeOf 1 L0).2)]) (e _ _ rfl) rfl) rfl rfl ?_
  refine wl_val (v := .slice A3 ((makeOf 1 L0).1.length) c4) (fun ρ e => ex_assign (e _ _ rfl)) rfl rfl ?_
  refine wl_val (v := .int .i64 ((makeOf 1 L0).2)) (fun ρ e => ex_assign (e _ _ rfl)) rfl rfl ?_
  refine wl_nil ?_
  refine xw_next K2 ?_
  refine cw_ret ?_
  refine xw_ret (v := .tuple #[.slice A3 ((makeOf 1 L0).1.length) c4, .int .i64 ((makeOf 1 L0).2)]) (fun T hT => res2 rfl T _ (hT 2 _ rfl) (hT 3 _ rfl)) ?_
  exact ⟨A3, c4, rfl, O7⟩
end Go.Proofs.YtpeoodkepjhhiaaDoor
namespace Go.Proofs.YtpeoodkepjhhiaaDoor
open Go Go.RowKit
theorem read_ {W : World} (s : ByteArray) (tab : Tab W) : Calls Tryd.prog 47 #[.string s] W fun e w' => ∃ A' c', e = .returned (.slice A' (parseOf s.data.toList).1.length c') ∧ Own Z0 W w' [.row (.slice A' (parseOf s.data.toList).1.length c') 38 3 (parseOf s.data.toList).1.length (ncells (parseOf s.data.toList).1)] := by
  have O0 : Own Z0 W W [] := Own.start W
  refine sx_enter (args := [.string s]) Tryd.func47 rfl rfl (by simp) ?_
  refine cw_seq (fun FK1 K1 => ?_)
  refine cw_region ?_
  refine wl_val (v := .slice none 0 0) (fun ρ e => ex_assign (e _ _ rfl)) rfl rfl ?_
  refine wl_nil ?_
  refine xw_next K1 ?_
  refine cw_seq (fun FK2 K2 => ?_)
  refine cw_region ?_
  refine wl_val (v := .string s) (fun ρ e => ex_move (e _ _ rfl)) rfl rfl ?_
  refine wl_call (args := [.string s]) in_17 rfl rfl rfl ?_
  have hc8 := parse_ s (tab.below (Nat.le_refl _) O0.old)
  refine hc8.mono ?_
  rintro _ w5 ⟨A3, c4, rfl, h6⟩
  have O7 := O0.join1 h6 trivial
  refine ⟨_, rfl, ?_⟩
  refine wl_val (v := .tuple #[.slice A3 ((parseOf s.data.toList).1.length) c4, .int .i64 ((parseOf s.data.toList).2)]) (fun ρ e => ex_move (e _ _ rfl)) rfl rfl ?_
  refine wl_val (v := .slice A3 ((parseOf s.data.toList).1.length) c4) (fun ρ e => ex_extract (vs := #[.slice A3 ((parseOf s.data.toList).1.length) c4, .int .i64 ((parseOf s.data.toList).2)]) (e _ _ rfl) rfl) rfl rfl ?_
  refine wl_val (v := .int .i64 ((parseOf s.data.toList).2)) (fun ρ e => ex_extract (vs := #[.slice A3 ((parseOf s.data.toList).1.length) c4, .int .i64 ((parseOf s.data.toList).2)]) (e _ _ rfl) rfl) rfl rfl ?_
  refine wl_val (v := .slice A3 ((parseOf s.data.toList).1.length) c4) (fun ρ e => ex_assign (e _ _ rfl)) rfl rfl ?_
  refine wl_val (v := .int .i64 ((parseOf s.data.toList).2)) (fun ρ e => ex_assign (e _ _ rfl)) rfl rfl ?_
  refine wl_nil ?_
  refine xw_next K2 ?_
  refine cw_seq (fun FK9 K9 => ?_)
  refine cw_region ?_
  refine wl_val (v := .slice A3 ((parseOf s.data.toList).1.length) c4) (fun ρ e => ex_move (e _ _ rfl)) rfl rfl ?_
  refine wl_val (v := .slice A3 ((parseOf s.data.toList).1.length) c4) (fun ρ e => ex_assign (e _ _ rfl)) rfl rfl ?_
  refine wl_nil ?_
  refine xw_next K9 ?_
  refine cw_ret ?_
  refine xw_ret (v := .slice A3 ((parseOf s.data.toList).1.length) c4) (fun T hT => res1 rfl T _ (hT 2 _ rfl)) ?_
  exact ⟨A3, c4, rfl, O7⟩
def shownOf (ts : List VN) (ev : Int) : ByteArray := if ev ≠ 0 ∨ chkV ts ≠ 0 then ⟨#[110, 111, 110, 101]⟩ else ⟨(printOf ts).toArray⟩
theorem shown_ {W : World} {D : Nat → Prop} {V : Value} {ts : List VN} (hN : NodesD D W V ts) (hD : ∀ k, D k → k < W.heap.size) (tab : Tab W) (ev : Int) : Calls Tryd.prog 21 #[V, .int .i64 ev] W fun e w' => e = .returned (.string (shownOf ts ev)) ∧ Below W.heap.size W w' := by
  obtain ⟨A, c, rfl⟩ := hN.slice
  have O0 : Own Z0 W W [] := Own.start W
  refine sx_enter (args := [.slice A ts.length c, .int .i64 ev]) Tryd.func21 rfl rfl (by simp) ?_
  refine cw_seq (fun FK1 K1 => ?_)
  refine cw_region ?_
  refine wl_val (v := .string (⟨#[]⟩)) (fun ρ e => ex_assign (e _ _ rfl)) rfl rfl ?_
  refine wl_nil ?_
  refine xw_next K1 ?_
  refine cw_seq (fun FK2 K2 => ?_)
  refine cw_region ?_
  refine wl_val (v := .slice A ts.length c) (fun ρ e => ex_move (e _ _ rfl)) rfl rfl ?_
  refine wl_call (args := [.slice A ts.length c]) in_39 rfl rfl rfl ?_
  refine (print_ (hN.move (fun k hk => (O0.old).block k (hD k hk))) (fun k hk => Nat.lt_of_lt_of_le (hD k hk) (O0.old).size) (tab.below (Nat.le_refl _) O0.old)).mono ?_
  rintro _ w3 ⟨rfl, hb4⟩
  have O5 : Own Z0 W w3 [] := O0.below hb4
  refine ⟨_, rfl, ?_⟩
  refine wl_val (v := .tuple #[.string (⟨(printOf ts).toArray⟩), .int .i64 (chkV ts)]) (fun ρ e => ex_move (e _ _ rfl)) rfl rfl ?_
  refine wl_val (v := .string (⟨(printOf ts).toArray⟩)) (fun ρ e => ex_extract (vs := #[.string (⟨(printOf ts).toArray⟩), .int .i64 (chkV ts)]) (e _ _ rfl) rfl) rfl rfl ?_
  refine wl_val (v := .int .i64 (chkV ts)) (fun ρ e => ex_extract (vs := #[.string (⟨(printOf ts).toArray⟩), .int .i64 (chkV ts)]) (e _ _ rfl) rfl) rfl rfl ?_
  refine wl_val (v := .string (⟨(printOf ts).toArray⟩)) (fun ρ e => ex_assign (e _ _ rfl)) rfl rfl ?_
  refine wl_val (v := .int .i64 (chkV ts)) (fun ρ e => ex_assign (e _ _ rfl)) rfl rfl ?_
  refine wl_nil ?_
  refine xw_next K2 ?_
  refine cw_seq (fun FK6 K6 => ?_)
  refine cw_seq (fun FK7 K7 => ?_)
  refine cw_region ?_
  refine wl_val (v := .int .i64 ev) (fun ρ e => ex_move (e _ _ rfl)) rfl rfl ?_
  by_cases c8 : ev ≠ 0
  · skip
    refine wl_val (v := .bool true) (fun ρ e => ex_cmp (u := ev) (v := 0) (e _ _ rfl) (e _ _ rfl) (neq1 (by omega))) rfl rfl ?_
    refine wl_val (v := .bool true) (fun ρ e => ex_move (e _ _ rfl)) rfl rfl ?_
    refine wl_skip rfl rfl ?_
    refine wl_skip rfl rfl ?_
    refine wl_val (v := .bool true) (fun ρ e => ex_pick1 (e _ _ rfl) (e _ _ rfl)) rfl rfl ?_
    refine wl_nil ?_
    refine xw_next K7 ?_
    refine cw_true rfl ?_
    refine cw_seq (fun FK9 K9 => ?_)
    refine cw_region ?_
    refine wl_val (v := .string (⟨#[110, 111, 110, 101]⟩)) (fun ρ e => ex_assign (e _ _ rfl)) rfl rfl ?_
    refine wl_nil ?_
    refine xw_next K9 ?_
    refine cw_ret ?_
    refine xw_past (by intro h; cases h) ?_
    refine xw_ret (v := .string (⟨#[110, 111, 110, 101]⟩)) (fun T hT => res1 rfl T _ (hT 4 _ rfl)) ?_
    have hs : shownOf ts ev = ⟨#[110, 111, 110, 101]⟩ := by unfold shownOf; rw [if_pos (by omega)]
    rw [hs]
    exact ⟨rfl, O5.old⟩
  · skip
    refine wl_val (v := .bool false) (fun ρ e => ex_cmp (u := ev) (v := 0) (e _ _ rfl) (e _ _ rfl) (neq0 (by omega))) rfl rfl ?_
    refine wl_val (v := .bool false) (fun ρ e => ex_move (e _ _ rfl)) rfl rfl ?_
    refine wl_val (v := .int .i64 (chkV ts)) (fun ρ e => ex_move (e _ _ rfl)) rfl rfl ?_
    by_cases c10 : (chkV ts) ≠ 0
    · skip
      refine wl_val (v := .bool true) (fun ρ e => ex_cmp (u := (chkV ts)) (v := 0) (e _ _ rfl) (e _ _ rfl) (neq1 (by omega))) rfl rfl ?_
      refine wl_val (v := .bool true) (fun ρ e => ex_pick0 (e _ _ rfl) (e _ _ rfl)) rfl rfl ?_
      refine wl_nil ?_
      refine xw_next K7 ?_
      refine cw_true rfl ?_
      refine cw_seq (fun FK11 K11 => ?_)
      refine cw_region ?_
      refine wl_val (v := .string (⟨#[110, 111, 110, 101]⟩)) (fun ρ e => ex_assign (e _ _ rfl)) rfl rfl ?_
      refine wl_nil ?_
      refine xw_next K11 ?_
      refine cw_ret ?_
      refine xw_past (by intro h; cases h) ?_
      refine xw_ret (v := .string (⟨#[110, 111, 110, 101]⟩)) (fun T hT => res1 rfl T _ (hT 4 _ rfl)) ?_
      have hs : shownOf ts ev = ⟨#[110, 111, 110, 101]⟩ := by unfold shownOf; rw [if_pos (by omega)]
      rw [hs]
      exact ⟨rfl, O5.old⟩
    · skip
      refine wl_val (v := .bool false) (fun ρ e => ex_cmp (u := (chkV ts)) (v := 0) (e _ _ rfl) (e _ _ rfl) (neq0 (by omega))) rfl rfl ?_
      refine wl_val (v := .bool false) (fun ρ e => ex_pick0 (e _ _ rfl) (e _ _ rfl)) rfl rfl ?_
      refine wl_nil ?_
      refine xw_next K7 ?_
      refine cw_false rfl ?_
      refine cw_skip ?_
      refine xw_next K6 ?_
      refine cw_seq (fun FK12 K12 => ?_)
      refine cw_region ?_
      refine wl_val (v := .string (⟨(printOf ts).toArray⟩)) (fun ρ e => ex_move (e _ _ rfl)) rfl rfl ?_
      refine wl_val (v := .string (⟨(printOf ts).toArray⟩)) (fun ρ e => ex_assign (e _ _ rfl)) rfl rfl ?_
      refine wl_nil ?_
      refine xw_next K12 ?_
      refine cw_ret ?_
      refine xw_ret (v := .string (⟨(printOf ts).toArray⟩)) (fun T hT => res1 rfl T _ (hT 4 _ rfl)) ?_
      have hs : shownOf ts ev = ⟨(printOf ts).toArray⟩ := by unfold shownOf; rw [if_neg (by omega)]
      rw [hs]
      exact ⟨rfl, O5.old⟩
def T5 : List VN := [⟨-1, -1, 3⟩, ⟨-1, -1, 1⟩, ⟨0, 1, 0⟩, ⟨-1, -1, 2⟩, ⟨2, 3, 0⟩]
def T6 : List VN := [⟨-1, -1, 3⟩, ⟨-1, -1, 1⟩, ⟨-1, -1, 2⟩, ⟨1, 2, 0⟩, ⟨0, 3, 0⟩]
def T7 : List VN := [⟨-1, -1, 1⟩, ⟨-1, -1, 3⟩, ⟨0, 1, 0⟩, ⟨-1, -1, 2⟩, ⟨2, 3, 0⟩]
theorem w5 : parseOf (⟨#[40, 40, 51, 32, 49, 41, 32, 50, 41]⟩ : ByteArray).data.toList = (T5, 0) := by kernel_rfl
theorem w6 : movOf T5 1 4 = (T6, 0) := by kernel_rfl
theorem w7 : movOf T5 3 2 = (T7, 0) := by kernel_rfl
theorem w8 : makeOf 1 [3, 1, 2] = (T6, 0) := by kernel_rfl
theorem w9 : meetOf T5 0 3 = 4 := by kernel_rfl
theorem s6 : shownOf T6 0 = ⟨#[40, 51, 32, 40, 49, 32, 50, 41, 41]⟩ := by kernel_rfl
theorem s7 : shownOf T7 0 = ⟨#[40, 40, 49, 32, 51, 41, 32, 50, 41]⟩ := by kernel_rfl
theorem works_ {W : World} (tab : Tab W) : Calls Tryd.prog 14 #[] W fun e w' => e = .returned (.bool true) ∧ Below W.heap.size W w' := by
  have O0 : Own Z0 W W [] := Own.start W
  refine sx_enter (args := []) Tryd.func14 rfl rfl (by simp) ?_
  refine cw_seq (fun FK1 K1 => ?_)
  refine cw_region ?_
  refine wl_val (v := .bool false) (fun ρ e => ex_assign (e _ _ rfl)) rfl rfl ?_
  refine wl_nil ?_
  refine xw_next K1 ?_
  refine cw_seq (fun FK2 K2 => ?_)
  refine cw_region ?_
  refine wl_call (args := [.string (⟨#[40, 40, 51, 32, 49, 41, 32, 50, 41]⟩)]) in_47 rfl rfl rfl ?_
  have hc8 := read_ ⟨#[40, 40, 51, 32, 49, 41, 32, 50, 41]⟩ (tab.below (Nat.le_refl _) O0.old)
  rw [w5] at hc8
  refine hc8.mono ?_
  rintro _ w5 ⟨A3, c4, rfl, h6⟩
  have O7 := O0.join1 h6 trivial
  obtain ⟨g9, hg9⟩ := rowaddr (O7.row 0 rfl) (by decide)
  subst hg9
  refine ⟨_, rfl, ?_⟩
  refine wl_val (v := .slice (some ⟨g9, 0, none⟩) 5 c4) (fun ρ e => ex_assign (e _ _ rfl)) rfl rfl ?_
  refine wl_nil ?_
  refine xw_next K2 ?_
  refine cw_seq (fun FK10 K10 => ?_)
  refine cw_region ?_
  refine wl_val (v := .slice (some ⟨g9, 0, none⟩) 5 c4) (fun ρ e => ex_move (e _ _ rfl)) rfl rfl ?_
  refine wl_val (v := .int .i64 (5 : Int)) (fun ρ e => ex_len el23 (e _ _ rfl)) rfl rfl ?_
  refine wl_val (v := .bool true) (fun ρ e => ex_cmp (u := (5 : Int)) (v := 5) (e _ _ rfl) (e _ _ rfl) (eql1 (by omega))) rfl rfl ?_
  refine wl_val (v := .bool true) (fun ρ e => ex_move (e _ _ rfl)) rfl rfl ?_
  refine wl_val (v := .slice (some ⟨g9, 0, none⟩) 5 c4) (fun ρ e => ex_move (e _ _ rfl)) rfl rfl ?_
  refine wl_val (v := .pointer (some ⟨g9, 6, none⟩)) (fun ρ e => ex_idx (q := 6) (i := 2) el23 (e _ _ rfl) (e _ _ rfl) (by omega) (by omega)) rfl rfl ?_
  refine wl_val (v := .agg #[.int .i64 0, .int .i64 1, .int .i64 0]) (fun ρ e => ex_loadN (vs := [.int .i64 0, .int .i64 1, .int .i64 0]) ty38 (e _ _ rfl) rfl (cells3 (rowcell (O7.row 0 rfl) (show (ncells T5)[6]? = _ from rfl)) (rowcell (O7.row 0 rfl) (show (ncells T5)[7]? = _ from rfl)) (rowcell (O7.row 0 rfl) (show (ncells T5)[8]? = _ from rfl)))) rfl rfl ?_
  refine wl_val (v := .agg #[.int .i64 0, .int .i64 1, .int .i64 0]) (fun ρ e => ex_build (cells := #[.int .i64 0, .int .i64 1, .int .i64 0]) st38 (e.parts rfl) rfl) rfl rfl ?_
  refine wl_val (v := .bool true) (fun ρ e => ex_eqN (a := (VN.mk 0 1 0)) (b := (VN.mk 0 1 0)) (e _ _ rfl) (e _ _ rfl) (decide_eq_true rfl)) rfl rfl ?_
  refine wl_val (v := .bool true) (fun ρ e => ex_pick1 (e _ _ rfl) (e _ _ rfl)) rfl rfl ?_
  refine wl_val (v := .bool true) (fun ρ e => ex_move (e _ _ rfl)) rfl rfl ?_
  refine wl_val (v := .slice (some ⟨g9, 0, none⟩) 5 c4) (fun ρ e => ex_move (e _ _ rfl)) rfl rfl ?_
  refine wl_call (args := [.slice (some ⟨g9, 0, none⟩) 5 c4, .int .i64 4]) in_32 rfl rfl rfl ?_
  have hc16 := rotr_ (NodesD.of_row (O7.row 0 rfl)) (fun k hk => (World.ownsRow.lt (O7.row 0 rfl) k hk).2) 4
  rw [w6] at hc16
  refine hc16.mono ?_
  rintro _ w13 ⟨A11, c12, rfl, h14⟩
  have O15 := O7.join1 h14 trivial
  refine ⟨_, rfl, ?_⟩
  refine wl_val (v := .slice A11 T6.length c12) (fun ρ e => ex_extract (vs := #[.slice A11 T6.length c12, .int .i64 0]) (e _ _ rfl) rfl) rfl rfl ?_
  refine wl_val (v := .int .i64 0) (fun ρ e => ex_extract (vs := #[.slice A11 T6.length c12, .int .i64 0]) (e _ _ rfl) rfl) rfl rfl ?_
  refine wl_call (args := [.slice A11 T6.length c12, .int .i64 0]) in_21 rfl rfl rfl ?_
  have hc17 := shown_ (NodesD.of_row (O15.row 0 rfl)) (fun k hk => (World.ownsRow.lt (O15.row 0 rfl) k hk).2) (tab.below (Nat.le_refl _) O15.old) 0
  rw [s6] at hc17
  refine hc17.mono ?_
  rintro _ w18 ⟨rfl, hb19⟩
  have O20 : Own Z0 W w18 [.row (.slice A11 T6.length c12) 38 3 T6.length (ncells T6), .row (.slice (some ⟨g9, 0, none⟩) 5 c4) 38 3 5 (ncells T5)] := O15.below hb19
  refine ⟨_, rfl, ?_⟩
  refine wl_val (v := .bool true) (fun ρ e => ex_eqS (a := ⟨#[40, 51, 32, 40, 49, 32, 50, 41, 41]⟩) (b := ⟨#[40, 51, 32, 40, 49, 32, 50, 41, 41]⟩) (e _ _ rfl) (e _ _ rfl) (by rw [decide_eq_true rfl])) rfl rfl ?_
  refine wl_val (v := .bool true) (fun ρ e => ex_pick1 (e _ _ rfl) (e _ _ rfl)) rfl rfl ?_
  refine wl_val (v := .bool true) (fun ρ e => ex_move (e _ _ rfl)) rfl rfl ?_
  refine wl_val (v := .slice (some ⟨g9, 0, none⟩) 5 c4) (fun ρ e => ex_move (e _ _ rfl)) rfl rfl ?_
  refine wl_call (args := [.slice (some ⟨g9, 0, none⟩) 5 c4, .int .i64 2]) in_34 rfl rfl rfl ?_
  have hc26 := swap_ (NodesD.of_row (O20.row 1 rfl)) (fun k hk => (World.ownsRow.lt (O20.row 1 rfl) k hk).2) 2
  rw [w7] at hc26
  refine hc26.mono ?_
  rintro _ w23 ⟨A21, c22, rfl, h24⟩
  have O25 := O20.join1 h24 trivial
  refine ⟨_, rfl, ?_⟩
  refine wl_val (v := .slice A21 T7.length c22) (fun ρ e => ex_extract (vs := #[.slice A21 T7.length c22, .int .i64 0]) (e _ _ rfl) rfl) rfl rfl ?_
  refine wl_val (v := .int .i64 0) (fun ρ e => ex_extract (vs := #[.slice A21 T7.length c22, .int .i64 0]) (e _ _ rfl) rfl) rfl rfl ?_
  refine wl_call (args := [.slice A21 T7.length c22, .int .i64 0]) in_21 rfl rfl rfl ?_
  have hc27 := shown_ (NodesD.of_row (O25.row 0 rfl)) (fun k hk => (World.ownsRow.lt (O25.row 0 rfl) k hk).2) (tab.below (Nat.le_refl _) O25.old) 0
  rw [s7] at hc27
  refine hc27.mono ?_
  rintro _ w28 ⟨rfl, hb29⟩
  have O30 : Own Z0 W w28 [.row (.slice A21 T7.length c22) 38 3 T7.length (ncells T7), .row (.slice A11 T6.length c12) 38 3 T6.length (ncells T6), .row (.slice (some ⟨g9, 0, none⟩) 5 c4) 38 3 5 (ncells T5)] := O25.below hb29
  refine ⟨_, rfl, ?_⟩
  refine wl_val (v := .bool true) (fun ρ e => ex_eqS (a := ⟨#[40, 40, 49, 32, 51, 41, 32, 50, 41]⟩) (b := ⟨#[40, 40, 49, 32, 51, 41, 32, 50, 41]⟩) (e _ _ rfl) (e _ _ rfl) (by rw [decide_eq_true rfl])) rfl rfl ?_
  refine wl_val (v := .bool true) (fun ρ e => ex_pick1 (e _ _ rfl) (e _ _ rfl)) rfl rfl ?_
  refine wl_val (v := .bool true) (fun ρ e => ex_move (e _ _ rfl)) rfl rfl ?_
  obtain ⟨g31, w32, r33, O34, hg35, hs36⟩ := own_slice O30 el36 ze3 3 [(0, .int .i64 3), (1, .int .i64 1), (2, .int .i64 2)] (cs := #[.int .i64 3, .int .i64 1, .int .i64 2]) (by decide) (by kernel_rfl)
  refine wl_val (v := .slice (some ⟨g31, 0, none⟩) 3 3) (fun ρ e => r33 ρ _ _ _ _ _ _ (e.parts rfl)) rfl rfl ?_
  refine wl_call (args := [.slice (some ⟨g31, 0, none⟩) 3 3]) in_24 rfl rfl rfl ?_
  have hc42 := right_ (IntsD.of_blk (n := 3) (l := [3, 1, 2]) (O34.blk 0 rfl) rfl (by unfold maxLen; omega)) (fun k hk => hk ▸ (O34.blk 0 rfl).lt) (by decide)
  rw [w8] at hc42
  refine hc42.mono ?_
  rintro _ w39 ⟨A37, c38, rfl, h40⟩
  have O41 := O34.join1 h40 trivial
  refine ⟨_, rfl, ?_⟩
  refine wl_val (v := .slice A37 T6.length c38) (fun ρ e => ex_extract (vs := #[.slice A37 T6.length c38, .int .i64 0]) (e _ _ rfl) rfl) rfl rfl ?_
  refine wl_val (v := .int .i64 0) (fun ρ e => ex_extract (vs := #[.slice A37 T6.length c38, .int .i64 0]) (e _ _ rfl) rfl) rfl rfl ?_
  refine wl_call (args := [.slice A37 T6.length c38, .int .i64 0]) in_21 rfl rfl rfl ?_
  have hc43 := shown_ (NodesD.of_row (O41.row 0 rfl)) (fun k hk => (World.ownsRow.lt (O41.row 0 rfl) k hk).2) (tab.below (Nat.le_refl _) O41.old) 0
  rw [s6] at hc43
  refine hc43.mono ?_
  rintro _ w44 ⟨rfl, hb45⟩
  have O46 : Own Z0 W w44 [.row (.slice A37 T6.length c38) 38 3 T6.length (ncells T6), .blk g31 3 #[.int .i64 3, .int .i64 1, .int .i64 2], .row (.slice A21 T7.length c22) 38 3 T7.length (ncells T7), .row (.slice A11 T6.length c12) 38 3 T6.length (ncells T6), .row (.slice (some ⟨g9, 0, none⟩) 5 c4) 38 3 5 (ncells T5)] := O41.below hb45
  refine ⟨_, rfl, ?_⟩
  refine wl_val (v := .bool true) (fun ρ e => ex_eqS (a := ⟨#[40, 51, 32, 40, 49, 32, 50, 41, 41]⟩) (b := ⟨#[40, 51, 32, 40, 49, 32, 50, 41, 41]⟩) (e _ _ rfl) (e _ _ rfl) (by rw [decide_eq_true rfl])) rfl rfl ?_
  refine wl_val (v := .bool true) (fun ρ e => ex_pick1 (e _ _ rfl) (e _ _ rfl)) rfl rfl ?_
  refine wl_val (v := .bool true) (fun ρ e => ex_move (e _ _ rfl)) rfl rfl ?_
  refine wl_val (v := .slice (some ⟨g9, 0, none⟩) 5 c4) (fun ρ e => ex_move (e _ _ rfl)) rfl rfl ?_
  refine wl_call (args := [.slice (some ⟨g9, 0, none⟩) 5 c4, .int .i64 0, .int .i64 3]) in_15 rfl rfl rfl ?_
  have hc47 := meet_ (NodesD.of_row (O46.row 4 rfl)) (fun k hk => (World.ownsRow.lt (O46.row 4 rfl) k hk).2) 0 3
  rw [w9] at hc47
  refine hc47.mono ?_
  rintro _ w48 ⟨rfl, hb49⟩
  have O50 : Own Z0 W w48 [.row (.slice A37 T6.length c38) 38 3 T6.length (ncells T6), .blk g31 3 #[.int .i64 3, .int .i64 1, .int .i64 2], .row (.slice A21 T7.length c22) 38 3 T7.length (ncells T7), .row (.slice A11 T6.length c12) 38 3 T6.length (ncells T6), .row (.slice (some ⟨g9, 0, none⟩) 5 c4) 38 3 5 (ncells T5)] := O46.below hb49
  refine ⟨_, rfl, ?_⟩
  refine wl_val (v := .bool true) (fun ρ e => ex_cmp (u := 4) (v := 4) (e _ _ rfl) (e _ _ rfl) (eql1 (by omega))) rfl rfl ?_
  refine wl_val (v := .bool true) (fun ρ e => ex_pick1 (e _ _ rfl) (e _ _ rfl)) rfl rfl ?_
  refine wl_val (v := .bool true) (fun ρ e => ex_assign (e _ _ rfl)) rfl rfl ?_
  refine wl_nil ?_
  refine xw_next K10 ?_
  refine cw_ret ?_
  refine xw_ret (v := .bool true) (fun T hT => res1 rfl T _ (hT 0 _ rfl)) ?_
  exact ⟨rfl, O50.old⟩

end Go.Proofs.YtpeoodkepjhhiaaDoor
namespace Go.Proofs.YtpeoodkepjhhiaaDoor
open Go.ChangeShapes Go.WideShapes Go.ChangeAt Go.RowKit

end Go.Proofs.YtpeoodkepjhhiaaDoor
namespace Go.Proofs.YtpeoodkepjhhiaaDoor
open Go Go.RowKit Go.ChangeShapes Go.WideShapes Go.Deep Go.Joins

theorem laidOut : laidOutB Tryd.prog = true := by kernel_rfl

section
variable {H : Type} {enc : TypeId × Value → H} {W : World} {held : Bool}

theorem block_lt {a : Addr} {v : Value} (h : W.cell? a = some v) : a.block < W.heap.size := by
  unfold World.cell? at h
  split at h
  · rename_i he
    exact (Array.getElem?_eq_some_iff.1 he).1
  · cases h
theorem addr_eta {a : Addr} {v : Value} (h : W.cell? a = some v) : a = ⟨a.block, a.off, none⟩ := by
  have := World.cell?_spot h
  cases a; simp_all
theorem addr_add (b o j : Nat) : (⟨b, o, none⟩ : Addr).add j = ⟨b, o + j, none⟩ := by unfold Addr.add; split <;> simp_all

theorem open_fields {t : TypeId} {fs : Array Field} {fuel : Nat} {cs : List Value} {x : DataW H × List MemPlace} (ht : Tryd.prog.underlying t = some (.struct fs)) (hone : oneCellFields Tryd.prog fs = true)
    (h : DataW.trod enc Tryd.prog W 0 (fun _ => true) held fuel t cs = some x) (hl : cs.length = fs.size) :
    ∀ (j : Nat) (f : Field), fs[j]? = some f → ∃ v n y, cs[j]? = some v ∧ DataW.trod enc Tryd.prog W 0 (fun _ => true) held n f.type [v] = some y := by
  obtain ⟨ys, n', hn', hy, hlen, hyl, hf⟩ := DataW.trod_struct ht h
  intro j f hj
  obtain ⟨ho, hk⟩ := hone_of hone j f hj
  have hjl : j < fs.size := (Array.getElem?_eq_some_iff.1 hj).1
  have h1 := hf j f hj
  rw [ho, hk] at h1
  have hone' : (cs.drop j).take 1 = [cs[j]'(by omega)] := by
    rw [List.drop_eq_getElem_cons (by omega)]
    rfl
  rw [hone'] at h1
  have hys : ys[j]? = some (ys[j]'(by omega)) := List.getElem?_eq_getElem (by omega)
  exact ⟨_, _, _, List.getElem?_eq_getElem (by omega), h1.trans hys⟩

end
end Go.Proofs.YtpeoodkepjhhiaaDoor
namespace Go.Proofs.YtpeoodkepjhhiaaDoor
open Go Go.ChangeShapes Go.WideShapes Go.ChangeAt Go.RowKit

theorem carryAll {H : Type} {enc : TypeId × Value → H} {W W' : World} (hb : Below W.heap.size W W') : ∀ {ts : List TypeId} {vs : List Value} {ds : List (DataW H)} {ps : List MemPlace},
    DataW.TrodAll enc Tryd.prog W 0 (fun _ => true) true ts vs ds ps → (∀ x ∈ ps, x.block < W.heap.size) → ts.all (fun t => Tryd.prog.readableRec t && decide (t < Tryd.prog.types.size)) = true →
    DataW.TrodAll enc Tryd.prog W' 0 (fun b => decide (b < W.heap.size)) true ts vs ds ps := by
  intro ts
  induction ts with
  | nil =>
    intro vs ds ps h _ _
    obtain ⟨rfl, rfl, rfl⟩ := trodAll_nil h
    exact trodAll_mk0
  | cons t ts ih =>
    intro vs ds ps h hlt hts
    obtain ⟨v0, vs0, d0, ds0, p0, q0, rfl, rfl, rfl, h0, r0⟩ := trodAll_cons h
    simp only [List.all_cons, Bool.and_eq_true, decide_eq_true_eq] at hts
    exact trodAll_cons_mk (Below.trod laidOut hts.1.1 hts.1.2 h0 hb (fun x hx => hlt x (List.mem_append_left _ hx))) (ih r0 (fun x hx => hlt x (List.mem_append_right _ hx)) hts.2)

theorem law_post2 {H : Type} {enc : TypeId × Value → H} {f : Func} {s : ChangeSpec} {W W' : World} {args : Array Value} {v : Value} {ds : List (DataW H)} {p : List MemPlace} (hvars : s.vars = [])
    (hW : DataW.Whole enc Tryd.prog f.params.toList s.vars false W args.toList ds [] (p ++ []))
    (hA : DataW.TrodAll enc Tryd.prog W 0 (fun _ => true) true f.params.toList args.toList ds p)
    (hres : DataW.TrodAll enc Tryd.prog W' W.heap.size (fun _ => false) false f.resultTypes.toList (v.resultList f.resultTypes.size) (s.fn H (ds ++ [])).results [])
    (hfa : (s.fn H (ds ++ [])).args = ds) (hfv : (s.fn H (ds ++ [])).vars = []) (hts : f.params.toList.all (fun t => Tryd.prog.readableRec t && decide (t < Tryd.prog.types.size)) = true) (hb : Below W.heap.size W W') : s.post enc Tryd.prog f false true false false W args v W' := by
  have hlt : ∀ p' ∈ p ++ [], p'.block < W.heap.size := fun p' hp => hW.lt p' hp
  have hlt' : ∀ x ∈ p, x.block < W.heap.size := fun x hx => hlt x (by simpa using hx)
  have h2 := carryAll hb hA hlt' hts
  refine ⟨ds, [], p ++ [], [], p, [], hW, hres, ?_, ?_, World.keptBut_mono (fun p' hp => ⟨hp, .inr (.inl (by simpa using hp))⟩) (hb.frame (· ∈ p ++ [])), fun h => by cases h⟩
  · rw [hfa]; exact h2
  · rw [hfv, hvars]; rfl
end Go.Proofs.YtpeoodkepjhhiaaDoor
namespace Go.Proofs.YtpeoodkepjhhiaaDoor
open Go Go.ChangeShapes Go.WideShapes Go.ChangeAt Go.RowKit Go.Deep Go.Joins
section
variable {H : Type} {enc : TypeId × Value → H} {W : World} {held : Bool}
set_option maxRecDepth 100000 in
theorem slice_cells {r : Reach} {b0 t e : Nat} {v : Value} (ht : Tryd.prog.underlying t = some (.slice e)) (h : Value.okWide Tryd.prog W r b0 t v) : v.cells = #[v] := by
  obtain ⟨a, len, cap, rfl⟩ := okWide_slice ht h
  rfl
theorem open_node {fuel : Nat} {cs : List Value} {x : DataW H × List MemPlace} (hl : cs.length = 3) (h : DataW.trod enc Tryd.prog W 0 (fun _ => true) held fuel 38 cs = some x) :
    ∃ g : VN, cs = [.int .i64 g.l, .int .i64 g.r, .int .i64 g.v] := by
  have hf := open_fields Tryd.underlying38 (by kernel_rfl) h (by rw [hl]; rfl)
  obtain ⟨v0, n0, y0, c0, t0⟩ := hf 0 _ rfl
  obtain ⟨v1, n1, y1, c1, t1⟩ := hf 1 _ rfl
  obtain ⟨v2, n2, y2, c2, t2⟩ := hf 2 _ rfl
  obtain ⟨k, hk, _, _⟩ := DataW.trod_int Tryd.underlying3 t0
  obtain ⟨l, hl', _, _⟩ := DataW.trod_int Tryd.underlying3 t1
  obtain ⟨m, hm, _, _⟩ := DataW.trod_int Tryd.underlying3 t2
  injection hk with hk _
  injection hl' with hl' _
  injection hm with hm _
  subst hk hl' hm
  refine ⟨⟨k, l, m⟩, ?_⟩
  match cs, hl with
  | [a, b, c], _ => simp at c0 c1 c2; rw [c0, c1, c2]
theorem open_nodesD {fuel : Nat} {cs : List Value} {x : DataW H × List MemPlace} (h : DataW.trod enc Tryd.prog W 0 (fun _ => true) held fuel 23 cs = some x) :
    ∃ v ts, cs = [v] ∧ NodesD (fun k => k < W.heap.size) W v ts := by
  have hC : Tryd.prog.cellsOf 38 = 3 := by kernel_rfl
  rcases open_slice Tryd.underlying23 h with ⟨rfl, rfl⟩ | ⟨a, len, cap, m, n, D, Pl, rfl, hb, hl, hm, hmm, hx, hi⟩
  · exact ⟨_, [], rfl, NodesD.nil _ _⟩
  · simp only [if_true] at hmm
    subst hmm
    rw [hC] at hi
    have each : ∀ i, i < m → ∃ g : VN, (W.cell? ⟨a.block, a.off + i * 3, none⟩ = some (.int .i64 g.l) ∧ W.cell? ⟨a.block, a.off + i * 3 + 1, none⟩ = some (.int .i64 g.r) ∧ W.cell? ⟨a.block, a.off + i * 3 + 2, none⟩ = some (.int .i64 g.v)) ∧ (i = 0 → a = ⟨a.block, a.off, none⟩ ∧ a.block < W.heap.size) := fun i hlt => by
      obtain ⟨cs', hcs, ht⟩ := hi i hlt
      obtain ⟨_, hcl, hat⟩ := World.cells?_some hcs
      obtain ⟨g, rfl⟩ := open_node hcl ht
      have h0 := hat 0 (by omega)
      have h1 := hat 1 (by omega)
      have h2 := hat 2 (by omega)
      have he : a.add (i * 3) = ⟨a.block, a.off + i * 3, none⟩ := by
        unfold Addr.add at h0 ⊢
        split
        · rename_i hz
          rw [if_pos hz, if_pos rfl] at h0
          rw [hz]
          exact addr_eta h0
        · rfl
      rw [he] at h0 h1 h2
      rw [addr_add] at h0 h1 h2
      refine ⟨g, ⟨h0, h1, h2⟩, fun e0 => ?_⟩
      subst e0
      have ha : a.add (0 * 3) = a := by simp [Addr.add]
      rw [ha] at he
      refine ⟨he, ?_⟩
      exact block_lt (a := ⟨a.block, a.off + 0 * 3 + 0, none⟩) h0
    obtain ⟨vs, h1, h2⟩ := choose_list (P := fun i (g : VN) => W.cell? ⟨a.block, a.off + i * 3, none⟩ = some (.int .i64 g.l) ∧ W.cell? ⟨a.block, a.off + i * 3 + 1, none⟩ = some (.int .i64 g.r) ∧ W.cell? ⟨a.block, a.off + i * 3 + 2, none⟩ = some (.int .i64 g.v)) len (fun i hlt => by
      obtain ⟨g, hg, _⟩ := each i (by omega)
      exact ⟨g, hg⟩)
    subst h1
    refine ⟨_, vs, rfl, some a, m, rfl, hl, hm, fun hp => ?_⟩
    obtain ⟨_, _, h3⟩ := each 0 (by omega)
    obtain ⟨h4, h5⟩ := h3 rfl
    exact ⟨a.block, a.off, h5, by rw [← h4], h2⟩
set_option maxRecDepth 100000 in
theorem open_vt {r : Reach} {b0 : Nat} {v : Value} {d : DataW H} {p : List MemPlace} (hv : Value.okWide Tryd.prog W r b0 23 v) (h : DataW.Trod enc Tryd.prog W 0 (fun _ => true) held 23 v d p) : ∃ ts, NodesD (fun k => k < W.heap.size) W v ts := by
  obtain ⟨fuel, hf⟩ := h
  rw [slice_cells Tryd.underlying23 hv] at hf
  obtain ⟨v', ts, h1, h2⟩ := open_nodesD hf
  injection h1 with h1 _
  exact ⟨ts, h1 ▸ h2⟩
end
def laidL : List (String × DataW Unit) := Rows.vtreeMeetsRow.laid
theorem tab_laid {W : World} (h : laidMetH Tryd.prog laidL W) : Tab W := by
  rw [MakeChecks.laidMetH_plain _ _ _ (by kernel_rfl)] at h
  obtain ⟨g, t, cs, fuel, p, hg, ht, hv, hd⟩ := Lib.laidMet.reads (n := tabN) (d := Rows.laid_internal_strconv_uint64pow10) h (List.Mem.tail _ (List.Mem.tail _ (List.Mem.head _)))
  have h0 : Tryd.prog.globalNamed tabN = some 0 := by kernel_rfl
  obtain rfl := Option.some.inj (h0.symm.trans hg)
  have h1 : (Tryd.prog.globals[0]?).map (·.type) = some 108 := by kernel_rfl
  obtain rfl := Option.some.inj (h1.symm.trans ht)
  have hc := Lib.cells_of_tab (k := .u64) (zs := Lib.pow10Tab) Tryd.underlying108 Tryd.underlying55 (by kernel_rfl) (by kernel_rfl) hd
  unfold Tab Lib.TabIs
  rw [hv, ← hc]
end Go.Proofs.YtpeoodkepjhhiaaDoor
namespace Go.Proofs.YtpeoodkepjhhiaaDoor
open Go Go.RowKit
theorem count_small {K : List Int} {a : Int} (h : K.length ≤ 3000000) : ((K.count a : Nat) : Int) + 1 ≤ 9223372036854775807 := by
  have := List.count_le_length (a := a) (l := K)
  omega
theorem kidsL_len (l : List VN) : (kidsL l).length ≤ 2 * l.length := by
  induction l with
  | nil => simp [kidsL]
  | cons x r ih =>
    have : kidsL (x :: r) = kidsOf x ++ kidsL r := by simp [kidsL]
    rw [this, List.length_append, List.length_cons]
    have h2 : (kidsOf x).length ≤ 2 := by unfold kidsOf; split <;> simp
    omega
def rchkV (ts : List VN) : Int := if rokT ts then 0 else 1
theorem not_rok {ts : List VN} (k : Nat) (h : rpreB (ts.take k) = false) : rokT ts = false := by
  rw [Bool.eq_false_iff]; intro q
  rw [rpreB_take (rokT_parts.1 q).2.1 k] at h; cases h
theorem not_rok_len {ts : List VN} (h : ts.length = 0) : rokT ts = false := by
  rw [Bool.eq_false_iff]; intro q
  obtain ⟨h1, _⟩ := rokT_parts.1 q
  omega
theorem rcover_iff (ts : List VN) : rcoverB ts = true ↔ ∀ k, k < ts.length - 1 → (kidsL ts).count (k : Int) = 1 := by
  unfold rcoverB
  simp
section
variable {l : List VN} {xl xr xv : Int}
theorem rpreV_yes (h : rpreB l = true) (hx : lf ⟨xl, xr, xv⟩ = false) (hv : xv = 0) (h1 : 0 ≤ xl) (h2 : xl < l.length) (h3 : 0 ≤ xr) (h4 : xr < l.length) (h5 : xl ≠ xr) : rpreB (l ++ [⟨xl, xr, xv⟩]) = true := by
  rw [rpre_in h hx]
  simp only [Bool.not_eq_true', Bool.or_eq_false_iff, decide_eq_false_iff_not]
  refine ⟨⟨⟨⟨⟨?_, ?_⟩, ?_⟩, ?_⟩, ?_⟩, ?_⟩ <;> omega
theorem rpreV_no (h : rpreB l = true) (hx : lf ⟨xl, xr, xv⟩ = false) (hv : xv ≠ 0 ∨ xl < 0 ∨ (l.length : Int) ≤ xl ∨ xr < 0 ∨ (l.length : Int) ≤ xr ∨ xl = xr) : rpreB (l ++ [⟨xl, xr, xv⟩]) = false := by
  rw [rpre_in h hx]
  simp only [Bool.not_eq_false', Bool.or_eq_true, decide_eq_true_eq]
  omega
end
theorem rcheck0 {W : World} {D : Nat → Prop} {V : Value} {ts : List VN} (hN : NodesD D W V ts) (hD : ∀ k, D k → k < W.heap.size) (hsz : ts.length ≤ 1000000) :
    Calls Tryd.prog 41 #[V] W fun e w' => e = .returned (.int .i64 (rchkV ts)) ∧ Below W.heap.size W w' := by
  obtain ⟨A, c, rfl⟩ := hN.slice
  rcases Nat.eq_zero_or_pos ts.length with h0 | h0
  · skip
    have O0 : Own Z0 W W [] := Own.start W
    refine sx_enter (args := [.slice A ts.length c]) Tryd.func41 rfl rfl (by simp) ?_
    refine cw_seq (fun FK1 K1 => ?_)
    refine cw_region ?_
    refine wl_val (v := .int .i64 0) (fun ρ e => ex_assign (e _ _ rfl)) rfl rfl ?_
    refine wl_nil ?_
    refine xw_next K1 ?_
    refine cw_seq (fun FK2 K2 => ?_)
    refine cw_seq (fun FK3 K3 => ?_)
    refine cw_region ?_
    refine wl_val (v := .slice A ts.length c) (fun ρ e => ex_move (e _ _ rfl)) rfl rfl ?_
    refine wl_val (v := .int .i64 ((ts.length : Nat) : Int)) (fun ρ e => ex_len el23 (e _ _ rfl)) rfl rfl ?_
    refine wl_val (v := .bool true) (fun ρ e => ex_cmp (u := ((ts.length : Nat) : Int)) (v := 0) (e _ _ rfl) (e _ _ rfl) (eql1 (by omega))) rfl rfl ?_
    refine wl_nil ?_
    refine xw_next K3 ?_
    refine cw_true rfl ?_
    refine cw_seq (fun FK4 K4 => ?_)
    refine cw_region ?_
    refine wl_val (v := .int .i64 1) (fun ρ e => ex_assign (e _ _ rfl)) rfl rfl ?_
    refine wl_nil ?_
    refine xw_next K4 ?_
    refine cw_ret ?_
    refine xw_past (by intro h; cases h) ?_
    refine xw_ret (v := .int .i64 1) (fun T hT => res1 rfl T _ (hT 2 _ rfl)) ?_
    exact ⟨by unfold rchkV; rw [not_rok_len (by omega)]; rfl, O0.old⟩
  · obtain ⟨b, o, c', hv, hDb⟩ := hN.form h0
    injection hv with hA _ hc
    subst hA hc
    have O0 : Own Z0 W W [.ro D (fun w => NodesD D w (.slice (some ⟨b, o, none⟩) ts.length c) ts)] := (Own.start W).oldro (D := D) (p := (fun w => NodesD D w (.slice (some ⟨b, o, none⟩) ts.length c) ts)) (nodesE_holds hN hD)
    refine sx_enter (args := [.slice (some ⟨b, o, none⟩) ts.length c]) Tryd.func41 rfl rfl (by simp) ?_
    refine cw_seq (fun FK5 K5 => ?_)
    refine cw_region ?_
    refine wl_val (v := .int .i64 0) (fun ρ e => ex_assign (e _ _ rfl)) rfl rfl ?_
    refine wl_nil ?_
    refine xw_next K5 ?_
    refine cw_seq (fun FK6 K6 => ?_)
    refine cw_seq (fun FK7 K7 => ?_)
    refine cw_region ?_
    refine wl_val (v := .slice (some ⟨b, o, none⟩) ts.length c) (fun ρ e => ex_move (e _ _ rfl)) rfl rfl ?_
    refine wl_val (v := .int .i64 ((ts.length : Nat) : Int)) (fun ρ e => ex_len el23 (e _ _ rfl)) rfl rfl ?_
    refine wl_val (v := .bool false) (fun ρ e => ex_cmp (u := ((ts.length : Nat) : Int)) (v := 0) (e _ _ rfl) (e _ _ rfl) (eql0 (by omega))) rfl rfl ?_
    refine wl_nil ?_
    refine xw_next K7 ?_
    refine cw_false rfl ?_
    refine cw_skip ?_
    refine xw_next K6 ?_
    refine cw_seq (fun FK8 K8 => ?_)
    refine cw_region ?_
    refine wl_val (v := .slice (some ⟨b, o, none⟩) ts.length c) (fun ρ e => ex_move (e _ _ rfl)) rfl rfl ?_
    refine wl_val (v := .int .i64 ((ts.length : Nat) : Int)) (fun ρ e => ex_len el23 (e _ _ rfl)) rfl rfl ?_
    obtain ⟨g9, w10, r11, O12, hg13, hs14⟩ := own_make1 O0 ap36 rfl ts.length (by decide) (by omega) (cs := (intCs (cntL ts.length [])).toArray) (by rw [cntL_nil]; simp [intCs])
    refine wl_val (v := .slice (some ⟨g9, 0, none⟩) ts.length ts.length) (fun ρ e => r11 ρ _ _ _ _ _ _ _ (e _ _ rfl) (e _ _ rfl)) rfl rfl ?_
    refine wl_val (v := .slice (some ⟨g9, 0, none⟩) ts.length ts.length) (fun ρ e => ex_assign (e _ _ rfl)) rfl rfl ?_
    refine wl_nil ?_
    refine xw_next K8 ?_
    refine cw_seq (fun FK15 K15 => ?_)
    refine cw_region ?_
    obtain ⟨g16, w17, r18, O19, hg20, hs21⟩ := own_alloc O12 70 ze70 (cs := (boolCs (flagL 129 [])).toArray) (by rw [flagL_nil]; simp [boolCs, Value.cells])
    refine wl_val (v := .pointer (some ⟨g16, 0, none⟩)) (fun ρ e => r18 ρ _ _ _ _ _) rfl rfl ?_
    refine wl_nil ?_
    refine xw_next K15 ?_
    refine cw_seq (fun FK22 K22 => ?_)
    refine cw_seq (fun FK23 K23 => ?_)
    refine cw_region ?_
    refine wl_val (v := .int .i64 0) (fun ρ e => ex_assign (e _ _ rfl)) rfl rfl ?_
    refine wl_nil ?_
    refine xw_next K23 ?_
    refine cw_block ?_
    have O24 : Own Z0 W w17 [.blk g16 70 ((boolCs (flagL 129 [])).toArray), .blk g9 3 ((intCs (cntL ts.length [])).toArray), .ro D (fun w => NodesD D w (.slice (some ⟨b, o, none⟩) ts.length c) ts)] := O19
    refine cw_loop (ι := Nat) (fun q => [(0, .slice (some ⟨b, o, none⟩) ts.length c), (3, .slice (some ⟨g9, 0, none⟩) ts.length ts.length), (4, .pointer (some ⟨g16, 0, none⟩)), (5, .int .i64 (q : Int))]) (fun q X => (q ≤ ts.length) ∧ (rpreB (ts.take q) = true) ∧ Own Z0 W X [.blk g16 70 ((boolCs (flagL 129 (varsL (ts.take q)))).toArray), .blk g9 3 ((intCs (cntL ts.length (kidsL (ts.take q)))).toArray), .ro D (fun w => NodesD D w (.slice (some ⟨b, o, none⟩) ts.length c) ts)]) (fun q => ts.length - q) 0 ⟨Nat.zero_le _, (by rw [List.take_zero]; rfl), O24⟩ ⟨rfl, rfl, rfl, rfl, trivial⟩ (fun q w25 hJ F26 K27 => ?_)
    obtain ⟨i, rfl⟩ : ∃ x, x = q := ⟨_, rfl⟩
    obtain ⟨hi0, hp, O28⟩ := hJ
    try dsimp only at hi0 hp O28 ⊢
    by_cases hi : i < ts.length
    · skip
      obtain ⟨⟨xl, xr, xv⟩, hx⟩ : ∃ x, ts[i]? = some x := ⟨ts[i], List.getElem?_eq_getElem hi⟩
      have htk : ts.take (i + 1) = ts.take i ++ [⟨xl, xr, xv⟩] := take_more hx
      have hlen : (ts.take i).length = i := by rw [List.length_take]; omega
      have hkl := kidsL_len (ts.take i)
      refine cw_seq (fun FK29 K29 => ?_)
      refine cw_seq (fun FK30 K30 => ?_)
      refine cw_region ?_
      refine wl_val (v := .int .i64 (i : Int)) (fun ρ e => ex_move (e _ _ rfl)) rfl rfl ?_
      refine wl_val (v := .slice (some ⟨b, o, none⟩) ts.length c) (fun ρ e => ex_move (e _ _ rfl)) rfl rfl ?_
      refine wl_val (v := .int .i64 ((ts.length : Nat) : Int)) (fun ρ e => ex_len el23 (e _ _ rfl)) rfl rfl ?_
      refine wl_val (v := .bool true) (fun ρ e => ex_cmp (u := (i : Int)) (v := ((ts.length : Nat) : Int)) (e _ _ rfl) (e _ _ rfl) (lss1 (by omega))) rfl rfl ?_
      refine wl_nil ?_
      refine xw_next K30 ?_
      refine cw_true rfl ?_
      refine cw_skip ?_
      refine xw_next K29 ?_
      refine cw_seq (fun FK31 K31 => ?_)
      refine cw_block ?_
      refine cw_seq (fun FK32 K32 => ?_)
      refine cw_region ?_
      refine wl_val (v := .slice (some ⟨b, o, none⟩) ts.length c) (fun ρ e => ex_move (e _ _ rfl)) rfl rfl ?_
      refine wl_val (v := .int .i64 (i : Int)) (fun ρ e => ex_move (e _ _ rfl)) rfl rfl ?_
      refine wl_val (v := .pointer (some ⟨b, o + i * 3, none⟩)) (fun ρ e => ex_idx (q := o + i * 3) (i := i) el23 (e _ _ rfl) (e _ _ rfl) (by omega) (by omega)) rfl rfl ?_
      refine wl_val (v := .agg #[.int .i64 xl, .int .i64 xr, .int .i64 xv]) (fun ρ e => ex_loadN (vs := [.int .i64 xl, .int .i64 xr, .int .i64 xv]) ty38 (e _ _ rfl) rfl (cells3 (NodesD.c0 ((O28.ro 2 rfl : (fun w => NodesD D w (.slice (some ⟨b, o, none⟩) ts.length c) ts) _) : NodesD _ _ _ _) hx) (NodesD.c1 ((O28.ro 2 rfl : (fun w => NodesD D w (.slice (some ⟨b, o, none⟩) ts.length c) ts) _) : NodesD _ _ _ _) hx) (NodesD.c2 ((O28.ro 2 rfl : (fun w => NodesD D w (.slice (some ⟨b, o, none⟩) ts.length c) ts) _) : NodesD _ _ _ _) hx))) rfl rfl ?_
      obtain ⟨g33, w34, r35, O36, hg37, hs38⟩ := own_alloc O28 38 ze38 rfl
      refine wl_val (v := .pointer (some ⟨g33, 0, none⟩)) (fun ρ e => r35 ρ _ _ _ _ _) rfl rfl ?_
      obtain ⟨w39, r40, O41, hs42⟩ := own_put (o := 0) (n := 3) O36 ty38 (.agg #[.int .i64 xl, .int .i64 xr, .int .i64 xv]) [.int .i64 xl, .int .i64 xr, .int .i64 xv] (cs' := #[.int .i64 xl, .int .i64 xr, .int .i64 xv]) rfl rfl rfl (Nat.le_of_ble_eq_true rfl) rfl
      refine wl_none (fun ρ e => r40 ρ _ _ _ _ _ _ (e _ _ rfl) (e _ _ rfl)) rfl ?_
      refine wl_nil ?_
      refine xw_next K32 ?_
      refine cw_seq (fun FK43 K43 => ?_)
      refine cw_region ?_
      refine wl_val (v := .agg #[.int .i64 xl, .int .i64 xr, .int .i64 xv]) (fun ρ e => ex_loadN (vs := [.int .i64 xl, .int .i64 xr, .int .i64 xv]) ty38 (e _ _ rfl) rfl (O41.cells 0 0 rfl rfl)) rfl rfl ?_
      refine wl_call (args := [.agg #[.int .i64 xl, .int .i64 xr, .int .i64 xv]]) in_72 rfl rfl rfl ?_
      refine (rleaf_ (VN.mk xl xr xv) (W := w39)).mono ?_
      rintro _ w44 ⟨rfl, hb45⟩
      have O46 : Own Z0 W w44 [.blk g33 38 #[.int .i64 xl, .int .i64 xr, .int .i64 xv], .blk g16 70 ((boolCs (flagL 129 (varsL (ts.take i)))).toArray), .blk g9 3 ((intCs (cntL ts.length (kidsL (ts.take i)))).toArray), .ro D (fun w => NodesD D w (.slice (some ⟨b, o, none⟩) ts.length c) ts)] := O41.below hb45
      refine ⟨_, rfl, ?_⟩
      refine wl_nil ?_
      refine xw_next K43 ?_
      refine cw_cond (b := (lf (VN.mk xl xr xv))) rfl (fun c47 => ?_) (fun c47 => ?_)
      · skip
        obtain ⟨_, _, hv1, hv2⟩ := (lf_iff _).1 c47
        dsimp only at hv1 hv2
        obtain ⟨v, rfl⟩ : ∃ n : Nat, xv = n := ⟨xv.toNat, by omega⟩
        refine cw_seq (fun FK48 K48 => ?_)
        refine cw_seq (fun FK49 K49 => ?_)
        refine cw_region ?_
        refine wl_val (v := .pointer (some ⟨g33, 2, none⟩)) (fun ρ e => ex_field (q := 2) fi38_2 (e _ _ rfl) rfl) rfl rfl ?_
        refine wl_val (v := .int .i64 (v : Int)) (fun ρ e => ex_load1 ty3 (e _ _ rfl) (O46.cell 0 2 rfl rfl)) rfl rfl ?_
        refine wl_val (v := .pointer (some ⟨g16, v, none⟩)) (fun ρ e => ex_idxA (q := v) (i := v) an70 (e _ _ rfl) (e _ _ rfl) (by omega) (by omega)) rfl rfl ?_
        refine wl_val (v := .bool (decide ((v : Int) ∈ (varsL (ts.take i))))) (fun ρ e => ex_load1 ty4 (e _ _ rfl) (O46.cell 1 v rfl (getBo (flagL_get (varsL (ts.take i)) (by omega))))) rfl rfl ?_
        refine wl_nil ?_
        refine xw_next K49 ?_
        refine cw_cond (b := (decide ((v : Int) ∈ (varsL (ts.take i))))) rfl (fun c50 => ?_) (fun c50 => ?_)
        · skip
          refine cw_seq (fun FK51 K51 => ?_)
          refine cw_region ?_
          refine wl_val (v := .int .i64 1) (fun ρ e => ex_assign (e _ _ rfl)) rfl rfl ?_
          refine wl_nil ?_
          refine xw_next K51 ?_
          refine cw_ret ?_
          refine xw_past (by intro h; cases h) ?_
          refine xw_blockret ?_
          refine xw_past (by intro h; cases h) ?_
          refine xw_past (by intro h; cases h) ?_
          refine xw_blockret ?_
          refine xw_past (by intro h; cases h) ?_
          refine xw_ret (v := .int .i64 1) (fun T hT => res1 rfl T _ (hT 2 _ rfl)) ?_
          have hno : rokT ts = false := not_rok (i + 1) (by rw [htk]; exact (rpre_leaf hp c47).trans (by rw [c50]; rfl))
          exact ⟨by unfold rchkV; rw [hno]; rfl, O46.old⟩
        · skip
          refine cw_skip ?_
          refine xw_next K48 ?_
          refine cw_region ?_
          refine wl_val (v := .pointer (some ⟨g33, 2, none⟩)) (fun ρ e => ex_field (q := 2) fi38_2 (e _ _ rfl) rfl) rfl rfl ?_
          refine wl_val (v := .int .i64 (v : Int)) (fun ρ e => ex_load1 ty3 (e _ _ rfl) (O46.cell 0 2 rfl rfl)) rfl rfl ?_
          refine wl_val (v := .pointer (some ⟨g16, v, none⟩)) (fun ρ e => ex_idxA (q := v) (i := v) an70 (e _ _ rfl) (e _ _ rfl) (by omega) (by omega)) rfl rfl ?_
          obtain ⟨w52, r53, O54, hs55⟩ := own_put (o := v) (n := 1) (O46.re [1, 0, 2, 3] rfl : Own Z0 W w44 [.blk g16 70 ((boolCs (flagL 129 (varsL (ts.take i)))).toArray), .blk g33 38 #[.int .i64 xl, .int .i64 xr, .int .i64 (v : Int)], .blk g9 3 ((intCs (cntL ts.length (kidsL (ts.take i)))).toArray), .ro D (fun w => NodesD D w (.slice (some ⟨b, o, none⟩) ts.length c) ts)]) ty4 (.bool true) [.bool true] (cs' := (boolCs (flagL 129 ((varsL (ts.take i)) ++ [(v : Int)]))).toArray) rfl rfl rfl (by simp [boolCs, flagL_len] <;> omega) ((setBo _ v true).trans (congrArg (fun z => (boolCs z).toArray) (flagL_set 129 v (varsL (ts.take i)))))
          refine wl_none (fun ρ e => r53 ρ _ _ _ _ _ _ (e _ _ rfl) (e _ _ rfl)) rfl ?_
          refine wl_nil ?_
          refine xw_block ?_
          refine xw_next K31 ?_
          refine cw_region ?_
          refine wl_val (v := .int .i64 (i : Int)) (fun ρ e => ex_move (e _ _ rfl)) rfl rfl ?_
          refine wl_val (v := .int .i64 ((i + 1 : Nat) : Int)) (fun ρ e => ex_arith (k := .i64) (u := (i : Int)) (v := 1) (e _ _ rfl) (e _ _ rfl) (congrArg some ((congrArg _ (by omega)).trans (wrap_in (u := ((i + 1 : Nat) : Int)) (by omega) (by omega))))) rfl rfl ?_
          refine wl_val (v := .int .i64 ((i + 1 : Nat) : Int)) (fun ρ e => ex_assign (e _ _ rfl)) rfl rfl ?_
          refine wl_nil ?_
          have hV2 : varsL (ts.take (i + 1)) = ((varsL (ts.take i)) ++ [(v : Int)]) := by rw [htk, varsL_snoc]; simp [varOf, c47]
          have hK2 : kidsL (ts.take (i + 1)) = kidsL (ts.take i) := by rw [htk, kidsL_snoc]; simp [kidsOf, c47]
          have O56 : Own Z0 W w52 [.blk g16 70 ((boolCs (flagL 129 (varsL (ts.take (i + 1))))).toArray), .blk g9 3 ((intCs (cntL ts.length (kidsL (ts.take (i + 1))))).toArray), .ro D (fun w => NodesD D w (.slice (some ⟨b, o, none⟩) ts.length c) ts)] := by rw [hV2, hK2]; exact (O54.re [0, 2, 3] rfl : Own Z0 W w52 [.blk g16 70 ((boolCs (flagL 129 ((varsL (ts.take i)) ++ [(v : Int)]))).toArray), .blk g9 3 ((intCs (cntL ts.length (kidsL (ts.take i)))).toArray), .ro D (fun w => NodesD D w (.slice (some ⟨b, o, none⟩) ts.length c) ts)])
          refine xw_round K27 (i + 1) (by show ts.length - (i + 1) < ts.length - i; omega) ⟨(by show i + 1 ≤ ts.length; omega), (by show rpreB (ts.take (i + 1)) = true; rw [htk]; exact (rpre_leaf hp c47).trans (by rw [c50]; rfl)), O56⟩ ⟨rfl, rfl, rfl, rfl, trivial⟩
      · skip
        refine cw_seq (fun FK57 K57 => ?_)
        refine cw_seq (fun FK58 K58 => ?_)
        refine cw_region ?_
        refine wl_val (v := .pointer (some ⟨g33, 2, none⟩)) (fun ρ e => ex_field (q := 2) fi38_2 (e _ _ rfl) rfl) rfl rfl ?_
        refine wl_val (v := .int .i64 xv) (fun ρ e => ex_load1 ty3 (e _ _ rfl) (O46.cell 0 2 rfl rfl)) rfl rfl ?_
        by_cases c59 : xv ≠ 0
        · skip
          refine wl_val (v := .bool true) (fun ρ e => ex_cmp (u := xv) (v := 0) (e _ _ rfl) (e _ _ rfl) (neq1 (by omega))) rfl rfl ?_
          refine wl_val (v := .bool true) (fun ρ e => ex_move (e _ _ rfl)) rfl rfl ?_
          refine wl_skip rfl rfl ?_
          refine wl_skip rfl rfl ?_
          refine wl_skip rfl rfl ?_
          refine wl_val (v := .bool true) (fun ρ e => ex_pick1 (e _ _ rfl) (e _ _ rfl)) rfl rfl ?_
          refine wl_val (v := .bool true) (fun ρ e => ex_move (e _ _ rfl)) rfl rfl ?_
          refine wl_skip rfl rfl ?_
          refine wl_skip rfl rfl ?_
          refine wl_skip rfl rfl ?_
          refine wl_skip rfl rfl ?_
          refine wl_val (v := .bool true) (fun ρ e => ex_pick1 (e _ _ rfl) (e _ _ rfl)) rfl rfl ?_
          refine wl_val (v := .bool true) (fun ρ e => ex_move (e _ _ rfl)) rfl rfl ?_
          refine wl_skip rfl rfl ?_
          refine wl_skip rfl rfl ?_
          refine wl_skip rfl rfl ?_
          refine wl_val (v := .bool true) (fun ρ e => ex_pick1 (e _ _ rfl) (e _ _ rfl)) rfl rfl ?_
          refine wl_val (v := .bool true) (fun ρ e => ex_move (e _ _ rfl)) rfl rfl ?_
          refine wl_skip rfl rfl ?_
          refine wl_skip rfl rfl ?_
          refine wl_skip rfl rfl ?_
          refine wl_skip rfl rfl ?_
          refine wl_val (v := .bool true) (fun ρ e => ex_pick1 (e _ _ rfl) (e _ _ rfl)) rfl rfl ?_
          refine wl_val (v := .bool true) (fun ρ e => ex_move (e _ _ rfl)) rfl rfl ?_
          refine wl_skip rfl rfl ?_
          refine wl_skip rfl rfl ?_
          refine wl_skip rfl rfl ?_
          refine wl_skip rfl rfl ?_
          refine wl_skip rfl rfl ?_
          refine wl_val (v := .bool true) (fun ρ e => ex_pick1 (e _ _ rfl) (e _ _ rfl)) rfl rfl ?_
          refine wl_nil ?_
          refine xw_next K58 ?_
          refine cw_true rfl ?_
          refine cw_seq (fun FK60 K60 => ?_)
          refine cw_region ?_
          refine wl_val (v := .int .i64 1) (fun ρ e => ex_assign (e _ _ rfl)) rfl rfl ?_
          refine wl_nil ?_
          refine xw_next K60 ?_
          refine cw_ret ?_
          refine xw_past (by intro h; cases h) ?_
          refine xw_blockret ?_
          refine xw_past (by intro h; cases h) ?_
          refine xw_past (by intro h; cases h) ?_
          refine xw_blockret ?_
          refine xw_past (by intro h; cases h) ?_
          refine xw_ret (v := .int .i64 1) (fun T hT => res1 rfl T _ (hT 2 _ rfl)) ?_
          have hno : rokT ts = false := not_rok (i + 1) (by rw [htk]; exact rpreV_no hp c47 (by omega))
          exact ⟨by unfold rchkV; rw [hno]; rfl, O46.old⟩
        · skip
          refine wl_val (v := .bool false) (fun ρ e => ex_cmp (u := xv) (v := 0) (e _ _ rfl) (e _ _ rfl) (neq0 (by omega))) rfl rfl ?_
          refine wl_val (v := .bool false) (fun ρ e => ex_move (e _ _ rfl)) rfl rfl ?_
          refine wl_val (v := .pointer (some ⟨g33, 0, none⟩)) (fun ρ e => ex_field (q := 0) fi38_0 (e _ _ rfl) rfl) rfl rfl ?_
          refine wl_val (v := .int .i64 xl) (fun ρ e => ex_load1 ty3 (e _ _ rfl) (O46.cell 0 0 rfl rfl)) rfl rfl ?_
          by_cases c61 : xl < 0
          · skip
            refine wl_val (v := .bool true) (fun ρ e => ex_cmp (u := xl) (v := 0) (e _ _ rfl) (e _ _ rfl) (lss1 (by omega))) rfl rfl ?_
            refine wl_val (v := .bool true) (fun ρ e => ex_pick0 (e _ _ rfl) (e _ _ rfl)) rfl rfl ?_
            refine wl_val (v := .bool true) (fun ρ e => ex_move (e _ _ rfl)) rfl rfl ?_
            refine wl_skip rfl rfl ?_
            refine wl_skip rfl rfl ?_
            refine wl_skip rfl rfl ?_
            refine wl_skip rfl rfl ?_
            refine wl_val (v := .bool true) (fun ρ e => ex_pick1 (e _ _ rfl) (e _ _ rfl)) rfl rfl ?_
            refine wl_val (v := .bool true) (fun ρ e => ex_move (e _ _ rfl)) rfl rfl ?_
            refine wl_skip rfl rfl ?_
            refine wl_skip rfl rfl ?_
            refine wl_skip rfl rfl ?_
            refine wl_val (v := .bool true) (fun ρ e => ex_pick1 (e _ _ rfl) (e _ _ rfl)) rfl rfl ?_
            refine wl_val (v := .bool true) (fun ρ e => ex_move (e _ _ rfl)) rfl rfl ?_
            refine wl_skip rfl rfl ?_
            refine wl_skip rfl rfl ?_
            refine wl_skip rfl rfl ?_
            refine wl_skip rfl rfl ?_
            refine wl_val (v := .bool true) (fun ρ e => ex_pick1 (e _ _ rfl) (e _ _ rfl)) rfl rfl ?_
            refine wl_val (v := .bool true) (fun ρ e => ex_move (e _ _ rfl)) rfl rfl ?_
            refine wl_skip rfl rfl ?_
            refine wl_skip rfl rfl ?_
            refine wl_skip rfl rfl ?_
            refine wl_skip rfl rfl ?_
            refine wl_skip rfl rfl ?_
            refine wl_val (v := .bool true) (fun ρ e => ex_pick1 (e _ _ rfl) (e _ _ rfl)) rfl rfl ?_
            refine wl_nil ?_
            refine xw_next K58 ?_
            refine cw_true rfl ?_
            refine cw_seq (fun FK62 K62 => ?_)
            refine cw_region ?_
            refine wl_val (v := .int .i64 1) (fun ρ e => ex_assign (e _ _ rfl)) rfl rfl ?_
            refine wl_nil ?_
            refine xw_next K62 ?_
            refine cw_ret ?_
            refine xw_past (by intro h; cases h) ?_
            refine xw_blockret ?_
            refine xw_past (by intro h; cases h) ?_
            refine xw_past (by intro h; cases h) ?_
            refine xw_blockret ?_
            refine xw_past (by intro h; cases h) ?_
            refine xw_ret (v := .int .i64 1) (fun T hT => res1 rfl T _ (hT 2 _ rfl)) ?_
            have hno : rokT ts = false := not_rok (i + 1) (by rw [htk]; exact rpreV_no hp c47 (by omega))
            exact ⟨by unfold rchkV; rw [hno]; rfl, O46.old⟩
          · skip
            refine wl_val (v := .bool false) (fun ρ e => ex_cmp (u := xl) (v := 0) (e _ _ rfl) (e _ _ rfl) (lss0 (by omega))) rfl rfl ?_
            refine wl_val (v := .bool false) (fun ρ e => ex_pick0 (e _ _ rfl) (e _ _ rfl)) rfl rfl ?_
            refine wl_val (v := .bool false) (fun ρ e => ex_move (e _ _ rfl)) rfl rfl ?_
            refine wl_val (v := .pointer (some ⟨g33, 0, none⟩)) (fun ρ e => ex_field (q := 0) fi38_0 (e _ _ rfl) rfl) rfl rfl ?_
            refine wl_val (v := .int .i64 xl) (fun ρ e => ex_load1 ty3 (e _ _ rfl) (O46.cell 0 0 rfl rfl)) rfl rfl ?_
            refine wl_val (v := .int .i64 (i : Int)) (fun ρ e => ex_move (e _ _ rfl)) rfl rfl ?_
            by_cases c63 : xl ≥ (i : Int)
            · skip
              refine wl_val (v := .bool true) (fun ρ e => ex_cmp (u := xl) (v := (i : Int)) (e _ _ rfl) (e _ _ rfl) (geq1 (by omega))) rfl rfl ?_
              refine wl_val (v := .bool true) (fun ρ e => ex_pick0 (e _ _ rfl) (e _ _ rfl)) rfl rfl ?_
              refine wl_val (v := .bool true) (fun ρ e => ex_move (e _ _ rfl)) rfl rfl ?_
              refine wl_skip rfl rfl ?_
              refine wl_skip rfl rfl ?_
              refine wl_skip rfl rfl ?_
              refine wl_val (v := .bool true) (fun ρ e => ex_pick1 (e _ _ rfl) (e _ _ rfl)) rfl rfl ?_
              refine wl_val (v := .bool true) (fun ρ e => ex_move (e _ _ rfl)) rfl rfl ?_
              refine wl_skip rfl rfl ?_
              refine wl_skip rfl rfl ?_
              refine wl_skip rfl rfl ?_
              refine wl_skip rfl rfl ?_
              refine wl_val (v := .bool true) (fun ρ e => ex_pick1 (e _ _ rfl) (e _ _ rfl)) rfl rfl ?_
              refine wl_val (v := .bool true) (fun ρ e => ex_move (e _ _ rfl)) rfl rfl ?_
              refine wl_skip rfl rfl ?_
              refine wl_skip rfl rfl ?_
              refine wl_skip rfl rfl ?_
              refine wl_skip rfl rfl ?_
              refine wl_skip rfl rfl ?_
              refine wl_val (v := .bool true) (fun ρ e => ex_pick1 (e _ _ rfl) (e _ _ rfl)) rfl rfl ?_
              refine wl_nil ?_
              refine xw_next K58 ?_
              refine cw_true rfl ?_
              refine cw_seq (fun FK64 K64 => ?_)
              refine cw_region ?_
              refine wl_val (v := .int .i64 1) (fun ρ e => ex_assign (e _ _ rfl)) rfl rfl ?_
              refine wl_nil ?_
              refine xw_next K64 ?_
              refine cw_ret ?_
              refine xw_past (by intro h; cases h) ?_
              refine xw_blockret ?_
              refine xw_past (by intro h; cases h) ?_
              refine xw_past (by intro h; cases h) ?_
              refine xw_blockret ?_
              refine xw_past (by intro h; cases h) ?_
              refine xw_ret (v := .int .i64 1) (fun T hT => res1 rfl T _ (hT 2 _ rfl)) ?_
              have hno : rokT ts = false := not_rok (i + 1) (by rw [htk]; exact rpreV_no hp c47 (by omega))
              exact ⟨by unfold rchkV; rw [hno]; rfl, O46.old⟩
            · skip
              refine wl_val (v := .bool false) (fun ρ e => ex_cmp (u := xl) (v := (i : Int)) (e _ _ rfl) (e _ _ rfl) (geq0 (by omega))) rfl rfl ?_
              refine wl_val (v := .bool false) (fun ρ e => ex_pick0 (e _ _ rfl) (e _ _ rfl)) rfl rfl ?_
              refine wl_val (v := .bool false) (fun ρ e => ex_move (e _ _ rfl)) rfl rfl ?_
              refine wl_val (v := .pointer (some ⟨g33, 1, none⟩)) (fun ρ e => ex_field (q := 1) fi38_1 (e _ _ rfl) rfl) rfl rfl ?_
              refine wl_val (v := .int .i64 xr) (fun ρ e => ex_load1 ty3 (e _ _ rfl) (O46.cell 0 1 rfl rfl)) rfl rfl ?_
              by_cases c65 : xr < 0
              · skip
                refine wl_val (v := .bool true) (fun ρ e => ex_cmp (u := xr) (v := 0) (e _ _ rfl) (e _ _ rfl) (lss1 (by omega))) rfl rfl ?_
                refine wl_val (v := .bool true) (fun ρ e => ex_pick0 (e _ _ rfl) (e _ _ rfl)) rfl rfl ?_
                refine wl_val (v := .bool true) (fun ρ e => ex_move (e _ _ rfl)) rfl rfl ?_
                refine wl_skip rfl rfl ?_
                refine wl_skip rfl rfl ?_
                refine wl_skip rfl rfl ?_
                refine wl_skip rfl rfl ?_
                refine wl_val (v := .bool true) (fun ρ e => ex_pick1 (e _ _ rfl) (e _ _ rfl)) rfl rfl ?_
                refine wl_val (v := .bool true) (fun ρ e => ex_move (e _ _ rfl)) rfl rfl ?_
                refine wl_skip rfl rfl ?_
                refine wl_skip rfl rfl ?_
                refine wl_skip rfl rfl ?_
                refine wl_skip rfl rfl ?_
                refine wl_skip rfl rfl ?_
                refine wl_val (v := .bool true) (fun ρ e => ex_pick1 (e _ _ rfl) (e _ _ rfl)) rfl rfl ?_
                refine wl_nil ?_
                refine xw_next K58 ?_
                refine cw_true rfl ?_
                refine cw_seq (fun FK66 K66 => ?_)
                refine cw_region ?_
                refine wl_val (v := .int .i64 1) (fun ρ e => ex_assign (e _ _ rfl)) rfl rfl ?_
                refine wl_nil ?_
                refine xw_next K66 ?_
                refine cw_ret ?_
                refine xw_past (by intro h; cases h) ?_
                refine xw_blockret ?_
                refine xw_past (by intro h; cases h) ?_
                refine xw_past (by intro h; cases h) ?_
                refine xw_blockret ?_
                refine xw_past (by intro h; cases h) ?_
                refine xw_ret (v := .int .i64 1) (fun T hT => res1 rfl T _ (hT 2 _ rfl)) ?_
                have hno : rokT ts = false := not_rok (i + 1) (by rw [htk]; exact rpreV_no hp c47 (by omega))
                exact ⟨by unfold rchkV; rw [hno]; rfl, O46.old⟩
              · skip
                refine wl_val (v := .bool false) (fun ρ e => ex_cmp (u := xr) (v := 0) (e _ _ rfl) (e _ _ rfl) (lss0 (by omega))) rfl rfl ?_
                refine wl_val (v := .bool false) (fun ρ e => ex_pick0 (e _ _ rfl) (e _ _ rfl)) rfl rfl ?_
                refine wl_val (v := .bool false) (fun ρ e => ex_move (e _ _ rfl)) rfl rfl ?_
                refine wl_val (v := .pointer (some ⟨g33, 1, none⟩)) (fun ρ e => ex_field (q := 1) fi38_1 (e _ _ rfl) rfl) rfl rfl ?_
                refine wl_val (v := .int .i64 xr) (fun ρ e => ex_load1 ty3 (e _ _ rfl) (O46.cell 0 1 rfl rfl)) rfl rfl ?_
                refine wl_val (v := .int .i64 (i : Int)) (fun ρ e => ex_move (e _ _ rfl)) rfl rfl ?_
                by_cases c67 : xr ≥ (i : Int)
                · skip
                  refine wl_val (v := .bool true) (fun ρ e => ex_cmp (u := xr) (v := (i : Int)) (e _ _ rfl) (e _ _ rfl) (geq1 (by omega))) rfl rfl ?_
                  refine wl_val (v := .bool true) (fun ρ e => ex_pick0 (e _ _ rfl) (e _ _ rfl)) rfl rfl ?_
                  refine wl_val (v := .bool true) (fun ρ e => ex_move (e _ _ rfl)) rfl rfl ?_
                  refine wl_skip rfl rfl ?_
                  refine wl_skip rfl rfl ?_
                  refine wl_skip rfl rfl ?_
                  refine wl_skip rfl rfl ?_
                  refine wl_skip rfl rfl ?_
                  refine wl_val (v := .bool true) (fun ρ e => ex_pick1 (e _ _ rfl) (e _ _ rfl)) rfl rfl ?_
                  refine wl_nil ?_
                  refine xw_next K58 ?_
                  refine cw_true rfl ?_
                  refine cw_seq (fun FK68 K68 => ?_)
                  refine cw_region ?_
                  refine wl_val (v := .int .i64 1) (fun ρ e => ex_assign (e _ _ rfl)) rfl rfl ?_
                  refine wl_nil ?_
                  refine xw_next K68 ?_
                  refine cw_ret ?_
                  refine xw_past (by intro h; cases h) ?_
                  refine xw_blockret ?_
                  refine xw_past (by intro h; cases h) ?_
                  refine xw_past (by intro h; cases h) ?_
                  refine xw_blockret ?_
                  refine xw_past (by intro h; cases h) ?_
                  refine xw_ret (v := .int .i64 1) (fun T hT => res1 rfl T _ (hT 2 _ rfl)) ?_
                  have hno : rokT ts = false := not_rok (i + 1) (by rw [htk]; exact rpreV_no hp c47 (by omega))
                  exact ⟨by unfold rchkV; rw [hno]; rfl, O46.old⟩
                · skip
                  refine wl_val (v := .bool false) (fun ρ e => ex_cmp (u := xr) (v := (i : Int)) (e _ _ rfl) (e _ _ rfl) (geq0 (by omega))) rfl rfl ?_
                  refine wl_val (v := .bool false) (fun ρ e => ex_pick0 (e _ _ rfl) (e _ _ rfl)) rfl rfl ?_
                  refine wl_val (v := .bool false) (fun ρ e => ex_move (e _ _ rfl)) rfl rfl ?_
                  refine wl_val (v := .pointer (some ⟨g33, 0, none⟩)) (fun ρ e => ex_field (q := 0) fi38_0 (e _ _ rfl) rfl) rfl rfl ?_
                  refine wl_val (v := .int .i64 xl) (fun ρ e => ex_load1 ty3 (e _ _ rfl) (O46.cell 0 0 rfl rfl)) rfl rfl ?_
                  refine wl_val (v := .pointer (some ⟨g33, 1, none⟩)) (fun ρ e => ex_field (q := 1) fi38_1 (e _ _ rfl) rfl) rfl rfl ?_
                  refine wl_val (v := .int .i64 xr) (fun ρ e => ex_load1 ty3 (e _ _ rfl) (O46.cell 0 1 rfl rfl)) rfl rfl ?_
                  by_cases c69 : xl = xr
                  · skip
                    refine wl_val (v := .bool true) (fun ρ e => ex_cmp (u := xl) (v := xr) (e _ _ rfl) (e _ _ rfl) (eql1 (by omega))) rfl rfl ?_
                    refine wl_val (v := .bool true) (fun ρ e => ex_pick0 (e _ _ rfl) (e _ _ rfl)) rfl rfl ?_
                    refine wl_nil ?_
                    refine xw_next K58 ?_
                    refine cw_true rfl ?_
                    refine cw_seq (fun FK70 K70 => ?_)
                    refine cw_region ?_
                    refine wl_val (v := .int .i64 1) (fun ρ e => ex_assign (e _ _ rfl)) rfl rfl ?_
                    refine wl_nil ?_
                    refine xw_next K70 ?_
                    refine cw_ret ?_
                    refine xw_past (by intro h; cases h) ?_
                    refine xw_blockret ?_
                    refine xw_past (by intro h; cases h) ?_
                    refine xw_past (by intro h; cases h) ?_
                    refine xw_blockret ?_
                    refine xw_past (by intro h; cases h) ?_
                    refine xw_ret (v := .int .i64 1) (fun T hT => res1 rfl T _ (hT 2 _ rfl)) ?_
                    have hno : rokT ts = false := not_rok (i + 1) (by rw [htk]; exact rpreV_no hp c47 (by omega))
                    exact ⟨by unfold rchkV; rw [hno]; rfl, O46.old⟩
                  · skip
                    obtain ⟨a, rfl⟩ : ∃ n : Nat, xl = n := ⟨xl.toNat, by omega⟩
                    obtain ⟨b2, rfl⟩ : ∃ n : Nat, xr = n := ⟨xr.toNat, by omega⟩
                    refine wl_val (v := .bool false) (fun ρ e => ex_cmp (u := (a : Int)) (v := (b2 : Int)) (e _ _ rfl) (e _ _ rfl) (eql0 (by omega))) rfl rfl ?_
                    refine wl_val (v := .bool false) (fun ρ e => ex_pick0 (e _ _ rfl) (e _ _ rfl)) rfl rfl ?_
                    refine wl_nil ?_
                    refine xw_next K58 ?_
                    refine cw_false rfl ?_
                    refine cw_skip ?_
                    refine xw_next K57 ?_
                    refine cw_seq (fun FK71 K71 => ?_)
                    refine cw_region ?_
                    refine wl_val (v := .slice (some ⟨g9, 0, none⟩) ts.length ts.length) (fun ρ e => ex_move (e _ _ rfl)) rfl rfl ?_
                    refine wl_val (v := .pointer (some ⟨g33, 0, none⟩)) (fun ρ e => ex_field (q := 0) fi38_0 (e _ _ rfl) rfl) rfl rfl ?_
                    refine wl_val (v := .int .i64 (a : Int)) (fun ρ e => ex_load1 ty3 (e _ _ rfl) (O46.cell 0 0 rfl rfl)) rfl rfl ?_
                    refine wl_val (v := .pointer (some ⟨g9, a, none⟩)) (fun ρ e => ex_idx (q := a) (i := a) el36 (e _ _ rfl) (e _ _ rfl) (by omega) (by omega)) rfl rfl ?_
                    refine wl_val (v := .int .i64 (((kidsL (ts.take i)).count (a : Int) : Nat) : Int)) (fun ρ e => ex_load1 ty3 (e _ _ rfl) (O46.cell 2 a rfl (getI (cntL_get (kidsL (ts.take i)) (by omega))))) rfl rfl ?_
                    refine wl_val (v := .int .i64 ((((kidsL (ts.take i)).count (a : Int) : Nat) : Int) + 1)) (fun ρ e => ex_arith (k := .i64) (u := (((kidsL (ts.take i)).count (a : Int) : Nat) : Int)) (v := 1) (e _ _ rfl) (e _ _ rfl) (congrArg some (wrap_in (by omega) (count_small (by first | omega | (simp only [List.length_append, List.length_cons, List.length_nil]; omega)))))) rfl rfl ?_
                    refine wl_val (v := .pointer (some ⟨g9, a, none⟩)) (fun ρ e => ex_idx (q := a) (i := a) el36 (e _ _ rfl) (e _ _ rfl) (by omega) (by omega)) rfl rfl ?_
                    obtain ⟨w72, r73, O74, hs75⟩ := own_put (o := a) (n := 1) (O46.re [2, 0, 1, 3] rfl : Own Z0 W w44 [.blk g9 3 ((intCs (cntL ts.length (kidsL (ts.take i)))).toArray), .blk g33 38 #[.int .i64 (a : Int), .int .i64 (b2 : Int), .int .i64 xv], .blk g16 70 ((boolCs (flagL 129 (varsL (ts.take i)))).toArray), .ro D (fun w => NodesD D w (.slice (some ⟨b, o, none⟩) ts.length c) ts)]) ty3 (.int .i64 ((((kidsL (ts.take i)).count (a : Int) : Nat) : Int) + 1)) [.int .i64 ((((kidsL (ts.take i)).count (a : Int) : Nat) : Int) + 1)] (cs' := (intCs (cntL ts.length ((kidsL (ts.take i)) ++ [(a : Int)]))).toArray) rfl rfl rfl (by simp [intCs, cntL_len] <;> omega) ((setI _ a _).trans (congrArg (fun z => (intCs z).toArray) (cntL_set ts.length a (kidsL (ts.take i)))))
                    refine wl_none (fun ρ e => r73 ρ _ _ _ _ _ _ (e _ _ rfl) (e _ _ rfl)) rfl ?_
                    refine wl_nil ?_
                    refine xw_next K71 ?_
                    refine cw_region ?_
                    refine wl_val (v := .slice (some ⟨g9, 0, none⟩) ts.length ts.length) (fun ρ e => ex_move (e _ _ rfl)) rfl rfl ?_
                    refine wl_val (v := .pointer (some ⟨g33, 1, none⟩)) (fun ρ e => ex_field (q := 1) fi38_1 (e _ _ rfl) rfl) rfl rfl ?_
                    refine wl_val (v := .int .i64 (b2 : Int)) (fun ρ e => ex_load1 ty3 (e _ _ rfl) (O74.cell 1 1 rfl rfl)) rfl rfl ?_
                    refine wl_val (v := .pointer (some ⟨g9, b2, none⟩)) (fun ρ e => ex_idx (q := b2) (i := b2) el36 (e _ _ rfl) (e _ _ rfl) (by omega) (by omega)) rfl rfl ?_
                    refine wl_val (v := .int .i64 ((((kidsL (ts.take i)) ++ [(a : Int)]).count (b2 : Int) : Nat) : Int)) (fun ρ e => ex_load1 ty3 (e _ _ rfl) (O74.cell 0 b2 rfl (getI (cntL_get ((kidsL (ts.take i)) ++ [(a : Int)]) (by omega))))) rfl rfl ?_
                    refine wl_val (v := .int .i64 (((((kidsL (ts.take i)) ++ [(a : Int)]).count (b2 : Int) : Nat) : Int) + 1)) (fun ρ e => ex_arith (k := .i64) (u := ((((kidsL (ts.take i)) ++ [(a : Int)]).count (b2 : Int) : Nat) : Int)) (v := 1) (e _ _ rfl) (e _ _ rfl) (congrArg some (wrap_in (by omega) (count_small (by first | omega | (simp only [List.length_append, List.length_cons, List.length_nil]; omega)))))) rfl rfl ?_
                    refine wl_val (v := .pointer (some ⟨g9, b2, none⟩)) (fun ρ e => ex_idx (q := b2) (i := b2) el36 (e _ _ rfl) (e _ _ rfl) (by omega) (by omega)) rfl rfl ?_
                    obtain ⟨w76, r77, O78, hs79⟩ := own_put (o := b2) (n := 1) O74 ty3 (.int .i64 (((((kidsL (ts.take i)) ++ [(a : Int)]).count (b2 : Int) : Nat) : Int) + 1)) [.int .i64 (((((kidsL (ts.take i)) ++ [(a : Int)]).count (b2 : Int) : Nat) : Int) + 1)] (cs' := (intCs (cntL ts.length (((kidsL (ts.take i)) ++ [(a : Int)]) ++ [(b2 : Int)]))).toArray) rfl rfl rfl (by simp [intCs, cntL_len] <;> omega) ((setI _ b2 _).trans (congrArg (fun z => (intCs z).toArray) (cntL_set ts.length b2 ((kidsL (ts.take i)) ++ [(a : Int)]))))
                    refine wl_none (fun ρ e => r77 ρ _ _ _ _ _ _ (e _ _ rfl) (e _ _ rfl)) rfl ?_
                    refine wl_nil ?_
                    refine xw_block ?_
                    refine xw_next K31 ?_
                    refine cw_region ?_
                    refine wl_val (v := .int .i64 (i : Int)) (fun ρ e => ex_move (e _ _ rfl)) rfl rfl ?_
                    refine wl_val (v := .int .i64 ((i + 1 : Nat) : Int)) (fun ρ e => ex_arith (k := .i64) (u := (i : Int)) (v := 1) (e _ _ rfl) (e _ _ rfl) (congrArg some ((congrArg _ (by omega)).trans (wrap_in (u := ((i + 1 : Nat) : Int)) (by omega) (by omega))))) rfl rfl ?_
                    refine wl_val (v := .int .i64 ((i + 1 : Nat) : Int)) (fun ρ e => ex_assign (e _ _ rfl)) rfl rfl ?_
                    refine wl_nil ?_
                    have hV2 : varsL (ts.take (i + 1)) = varsL (ts.take i) := by rw [htk, varsL_snoc]; simp [varOf, c47]
                    have hK2 : kidsL (ts.take (i + 1)) = (((kidsL (ts.take i)) ++ [(a : Int)]) ++ [(b2 : Int)]) := by rw [htk, kidsL_snoc]; simp [kidsOf, c47]
                    have O80 : Own Z0 W w76 [.blk g16 70 ((boolCs (flagL 129 (varsL (ts.take (i + 1))))).toArray), .blk g9 3 ((intCs (cntL ts.length (kidsL (ts.take (i + 1))))).toArray), .ro D (fun w => NodesD D w (.slice (some ⟨b, o, none⟩) ts.length c) ts)] := by rw [hV2, hK2]; exact (O78.re [2, 0, 3] rfl : Own Z0 W w76 [.blk g16 70 ((boolCs (flagL 129 (varsL (ts.take i)))).toArray), .blk g9 3 ((intCs (cntL ts.length (((kidsL (ts.take i)) ++ [(a : Int)]) ++ [(b2 : Int)]))).toArray), .ro D (fun w => NodesD D w (.slice (some ⟨b, o, none⟩) ts.length c) ts)])
                    refine xw_round K27 (i + 1) (by show ts.length - (i + 1) < ts.length - i; omega) ⟨(by show i + 1 ≤ ts.length; omega), (by show rpreB (ts.take (i + 1)) = true; rw [htk]; exact rpreV_yes hp c47 (by omega) (by omega) (by omega) (by omega) (by omega) (by omega)), O80⟩ ⟨rfl, rfl, rfl, rfl, trivial⟩
    · have hie : i = ts.length := by omega
      subst hie
      rw [List.take_length] at hp
      have hpre := hp
      have hOt : ts.take ts.length = ts := List.take_length
      rw [hOt] at O28
      refine cw_seq (fun FK81 K81 => ?_)
      refine cw_seq (fun FK82 K82 => ?_)
      refine cw_region ?_
      refine wl_val (v := .int .i64 ((ts.length : Nat) : Int)) (fun ρ e => ex_move (e _ _ rfl)) rfl rfl ?_
      refine wl_val (v := .slice (some ⟨b, o, none⟩) ts.length c) (fun ρ e => ex_move (e _ _ rfl)) rfl rfl ?_
      refine wl_val (v := .int .i64 ((ts.length : Nat) : Int)) (fun ρ e => ex_len el23 (e _ _ rfl)) rfl rfl ?_
      refine wl_val (v := .bool false) (fun ρ e => ex_cmp (u := ((ts.length : Nat) : Int)) (v := ((ts.length : Nat) : Int)) (e _ _ rfl) (e _ _ rfl) (lss0 (by omega))) rfl rfl ?_
      refine wl_nil ?_
      refine xw_next K82 ?_
      refine cw_false rfl ?_
      refine cw_exit ?_
      refine xw_past (by intro h; cases h) ?_
      refine xw_past (by intro h; cases h) ?_
      refine xw_here ?_
      refine xw_next K22 ?_
      refine cw_seq (fun FK83 K83 => ?_)
      refine cw_seq (fun FK84 K84 => ?_)
      refine cw_region ?_
      refine wl_val (v := .int .i64 0) (fun ρ e => ex_assign (e _ _ rfl)) rfl rfl ?_
      refine wl_nil ?_
      refine xw_next K84 ?_
      refine cw_block ?_
      refine cw_loop (ι := Nat) (fun q => [(0, .slice (some ⟨b, o, none⟩) ts.length c), (3, .slice (some ⟨g9, 0, none⟩) ts.length ts.length), (7, .int .i64 (q : Int))]) (fun q X => (q ≤ ts.length) ∧ (∀ k, k < q → k < ts.length - 1 → (kidsL ts).count (k : Int) = 1) ∧ Own Z0 W X [.blk g16 70 ((boolCs (flagL 129 (varsL ts))).toArray), .blk g9 3 ((intCs (cntL ts.length (kidsL ts))).toArray), .ro D (fun w => NodesD D w (.slice (some ⟨b, o, none⟩) ts.length c) ts)]) (fun q => ts.length - q) 0 ⟨Nat.zero_le _, (fun k hk => absurd hk (Nat.not_lt_zero k)), O28⟩ ⟨rfl, rfl, rfl, trivial⟩ (fun q w85 hJ F86 K87 => ?_)
      obtain ⟨j, rfl⟩ : ∃ x, x = q := ⟨_, rfl⟩
      obtain ⟨hj0, hcv, O88⟩ := hJ
      try dsimp only at hj0 hcv O88 ⊢
      by_cases hj : j < ts.length
      · skip
        refine cw_seq (fun FK89 K89 => ?_)
        refine cw_seq (fun FK90 K90 => ?_)
        refine cw_region ?_
        refine wl_val (v := .int .i64 (j : Int)) (fun ρ e => ex_move (e _ _ rfl)) rfl rfl ?_
        refine wl_val (v := .slice (some ⟨b, o, none⟩) ts.length c) (fun ρ e => ex_move (e _ _ rfl)) rfl rfl ?_
        refine wl_val (v := .int .i64 ((ts.length : Nat) : Int)) (fun ρ e => ex_len el23 (e _ _ rfl)) rfl rfl ?_
        refine wl_val (v := .bool true) (fun ρ e => ex_cmp (u := (j : Int)) (v := ((ts.length : Nat) : Int)) (e _ _ rfl) (e _ _ rfl) (lss1 (by omega))) rfl rfl ?_
        refine wl_nil ?_
        refine xw_next K90 ?_
        refine cw_true rfl ?_
        refine cw_skip ?_
        refine xw_next K89 ?_
        refine cw_seq (fun FK91 K91 => ?_)
        refine cw_block ?_
        refine cw_seq (fun FK92 K92 => ?_)
        refine cw_region ?_
        refine wl_val (v := .int .i64 (j : Int)) (fun ρ e => ex_move (e _ _ rfl)) rfl rfl ?_
        refine wl_val (v := .slice (some ⟨b, o, none⟩) ts.length c) (fun ρ e => ex_move (e _ _ rfl)) rfl rfl ?_
        refine wl_val (v := .int .i64 ((ts.length : Nat) : Int)) (fun ρ e => ex_len el23 (e _ _ rfl)) rfl rfl ?_
        refine wl_val (v := .int .i64 ((ts.length - 1 : Nat) : Int)) (fun ρ e => ex_arith (k := .i64) (u := ((ts.length : Nat) : Int)) (v := 1) (e _ _ rfl) (e _ _ rfl) (congrArg some ((congrArg _ (show _ = ((ts.length - 1 : Nat) : Int) by omega)).trans (wrap_in (by omega) (by omega))))) rfl rfl ?_
        by_cases c93 : (j : Int) < ((ts.length - 1 : Nat) : Int)
        · skip
          refine wl_val (v := .bool true) (fun ρ e => ex_cmp (u := (j : Int)) (v := ((ts.length - 1 : Nat) : Int)) (e _ _ rfl) (e _ _ rfl) (lss1 (by omega))) rfl rfl ?_
          refine wl_val (v := .bool true) (fun ρ e => ex_move (e _ _ rfl)) rfl rfl ?_
          refine wl_val (v := .slice (some ⟨g9, 0, none⟩) ts.length ts.length) (fun ρ e => ex_move (e _ _ rfl)) rfl rfl ?_
          refine wl_val (v := .int .i64 (j : Int)) (fun ρ e => ex_move (e _ _ rfl)) rfl rfl ?_
          refine wl_val (v := .pointer (some ⟨g9, j, none⟩)) (fun ρ e => ex_idx (q := j) (i := j) el36 (e _ _ rfl) (e _ _ rfl) (by omega) (by omega)) rfl rfl ?_
          refine wl_val (v := .int .i64 (((kidsL ts).count (j : Int) : Nat) : Int)) (fun ρ e => ex_load1 ty3 (e _ _ rfl) (O88.cell 1 j rfl (getI (cntL_get (kidsL ts) (by omega))))) rfl rfl ?_
          by_cases c94 : (((kidsL ts).count (j : Int) : Nat) : Int) ≠ 1
          · skip
            refine wl_val (v := .bool true) (fun ρ e => ex_cmp (u := (((kidsL ts).count (j : Int) : Nat) : Int)) (v := 1) (e _ _ rfl) (e _ _ rfl) (neq1 (by omega))) rfl rfl ?_
            refine wl_val (v := .bool true) (fun ρ e => ex_pick1 (e _ _ rfl) (e _ _ rfl)) rfl rfl ?_
            refine wl_nil ?_
            refine xw_next K92 ?_
            refine cw_true rfl ?_
            refine cw_seq (fun FK95 K95 => ?_)
            refine cw_region ?_
            refine wl_val (v := .int .i64 1) (fun ρ e => ex_assign (e _ _ rfl)) rfl rfl ?_
            refine wl_nil ?_
            refine xw_next K95 ?_
            refine cw_ret ?_
            refine xw_blockret ?_
            refine xw_past (by intro h; cases h) ?_
            refine xw_past (by intro h; cases h) ?_
            refine xw_blockret ?_
            refine xw_past (by intro h; cases h) ?_
            refine xw_ret (v := .int .i64 1) (fun T hT => res1 rfl T _ (hT 2 _ rfl)) ?_
            have hno : rokT ts = false := (Bool.eq_false_iff.2 fun q => absurd ((rcover_iff ts).1 (rokT_parts.1 q).2.2 j (by omega)) (by omega))
            exact ⟨by unfold rchkV; rw [hno]; rfl, O88.old⟩
          · skip
            refine wl_val (v := .bool false) (fun ρ e => ex_cmp (u := (((kidsL ts).count (j : Int) : Nat) : Int)) (v := 1) (e _ _ rfl) (e _ _ rfl) (neq0 (by omega))) rfl rfl ?_
            refine wl_val (v := .bool false) (fun ρ e => ex_pick1 (e _ _ rfl) (e _ _ rfl)) rfl rfl ?_
            refine wl_nil ?_
            refine xw_next K92 ?_
            refine cw_false rfl ?_
            refine cw_skip ?_
            refine xw_block ?_
            refine xw_next K91 ?_
            refine cw_region ?_
            refine wl_val (v := .int .i64 (j : Int)) (fun ρ e => ex_move (e _ _ rfl)) rfl rfl ?_
            refine wl_val (v := .int .i64 ((j + 1 : Nat) : Int)) (fun ρ e => ex_arith (k := .i64) (u := (j : Int)) (v := 1) (e _ _ rfl) (e _ _ rfl) (congrArg some ((congrArg _ (by omega)).trans (wrap_in (u := ((j + 1 : Nat) : Int)) (by omega) (by omega))))) rfl rfl ?_
            refine wl_val (v := .int .i64 ((j + 1 : Nat) : Int)) (fun ρ e => ex_assign (e _ _ rfl)) rfl rfl ?_
            refine wl_nil ?_
            refine xw_round K87 (j + 1) (by show ts.length - (j + 1) < ts.length - j; omega) ⟨(by show j + 1 ≤ _; omega), (fun k hk hk2 => by rcases Nat.lt_succ_iff_lt_or_eq.1 hk with h | h; exact hcv k h hk2; subst h; omega), O88⟩ ⟨rfl, rfl, rfl, trivial⟩
        · skip
          refine wl_val (v := .bool false) (fun ρ e => ex_cmp (u := (j : Int)) (v := ((ts.length - 1 : Nat) : Int)) (e _ _ rfl) (e _ _ rfl) (lss0 (by omega))) rfl rfl ?_
          refine wl_val (v := .bool false) (fun ρ e => ex_move (e _ _ rfl)) rfl rfl ?_
          refine wl_skip rfl rfl ?_
          refine wl_skip rfl rfl ?_
          refine wl_skip rfl rfl ?_
          refine wl_skip rfl rfl ?_
          refine wl_skip rfl rfl ?_
          refine wl_val (v := .bool false) (fun ρ e => ex_pick0 (e _ _ rfl) (e _ _ rfl)) rfl rfl ?_
          refine wl_nil ?_
          refine xw_next K92 ?_
          refine cw_false rfl ?_
          refine cw_skip ?_
          refine xw_block ?_
          refine xw_next K91 ?_
          refine cw_region ?_
          refine wl_val (v := .int .i64 (j : Int)) (fun ρ e => ex_move (e _ _ rfl)) rfl rfl ?_
          refine wl_val (v := .int .i64 ((j + 1 : Nat) : Int)) (fun ρ e => ex_arith (k := .i64) (u := (j : Int)) (v := 1) (e _ _ rfl) (e _ _ rfl) (congrArg some ((congrArg _ (by omega)).trans (wrap_in (u := ((j + 1 : Nat) : Int)) (by omega) (by omega))))) rfl rfl ?_
          refine wl_val (v := .int .i64 ((j + 1 : Nat) : Int)) (fun ρ e => ex_assign (e _ _ rfl)) rfl rfl ?_
          refine wl_nil ?_
          refine xw_round K87 (j + 1) (by show ts.length - (j + 1) < ts.length - j; omega) ⟨(by show j + 1 ≤ _; omega), (fun k hk hk2 => by rcases Nat.lt_succ_iff_lt_or_eq.1 hk with h | h; exact hcv k h hk2; subst h; omega), O88⟩ ⟨rfl, rfl, rfl, trivial⟩
      · have hcov : ∀ k, k < ts.length - 1 → (kidsL ts).count (k : Int) = 1 := fun k hk => hcv k (by omega) hk
        refine cw_seq (fun FK96 K96 => ?_)
        refine cw_seq (fun FK97 K97 => ?_)
        refine cw_region ?_
        refine wl_val (v := .int .i64 (j : Int)) (fun ρ e => ex_move (e _ _ rfl)) rfl rfl ?_
        refine wl_val (v := .slice (some ⟨b, o, none⟩) ts.length c) (fun ρ e => ex_move (e _ _ rfl)) rfl rfl ?_
        refine wl_val (v := .int .i64 ((ts.length : Nat) : Int)) (fun ρ e => ex_len el23 (e _ _ rfl)) rfl rfl ?_
        refine wl_val (v := .bool false) (fun ρ e => ex_cmp (u := (j : Int)) (v := ((ts.length : Nat) : Int)) (e _ _ rfl) (e _ _ rfl) (lss0 (by omega))) rfl rfl ?_
        refine wl_nil ?_
        refine xw_next K97 ?_
        refine cw_false rfl ?_
        refine cw_exit ?_
        refine xw_past (by intro h; cases h) ?_
        refine xw_past (by intro h; cases h) ?_
        refine xw_here ?_
        refine xw_next K83 ?_
        refine cw_seq (fun FK98 K98 => ?_)
        refine cw_region ?_
        refine wl_val (v := .int .i64 0) (fun ρ e => ex_assign (e _ _ rfl)) rfl rfl ?_
        refine wl_nil ?_
        refine xw_next K98 ?_
        refine cw_ret ?_
        refine xw_ret (v := .int .i64 0) (fun T hT => res1 rfl T _ (hT 2 _ rfl)) ?_
        have hok : rokT ts = true := rokT_parts.2 ⟨by omega, hpre, (rcover_iff ts).2 fun k hk => hcov k hk⟩
        exact ⟨by unfold rchkV; rw [hok]; rfl, O88.old⟩
end Go.Proofs.YtpeoodkepjhhiaaDoor
namespace Go.Proofs.YtpeoodkepjhhiaaDoor

def chainL (u : List Int) : Nat → Nat → List Int
  | 0, _ => []
  | n + 1, k => (k : Int) :: (match u[k]? with
    | none => []
    | some p => if p = -1 then [] else chainL u n p.toNat)
def chainOf (ts : List VN) (k : Nat) : List Int := chainL (parsOf ts) ts.length k
def firstIn (l m : List Int) : Int := match l.find? (fun x => decide (x ∈ m)) with
  | some x => x
  | none => -1
section
variable {ts : List VN}
end
end Go.Proofs.YtpeoodkepjhhiaaDoor
namespace Go.Proofs.YtpeoodkepjhhiaaDoor
open Go Go.RowKit
theorem rcheck_ {W : World} {D : Nat → Prop} {V : Value} {ts : List VN} (hN : NodesD D W V ts) (hD : ∀ k, D k → k < W.heap.size) (hsz : ts.length ≤ 1000000) : Calls Tryd.prog 41 #[V] W fun e w' => e = .returned (.int .i64 (chkV ts)) ∧ Below W.heap.size W w' := by
  have h : rchkV ts = chkV ts := by unfold rchkV chkV; rw [rok_ok]
  exact h ▸ rcheck0 hN hD hsz
theorem rcheckb_ {W : World} {D : Nat → Prop} {V : Value} {ts : List VN} (hN : NodesD D W V ts) (hD : ∀ k, D k → k < W.heap.size) (hsz : ts.length ≤ 1000000) {r : Int} (h : chkV ts = r) : Calls Tryd.prog 41 #[V] W fun e w' => e = .returned (.int .i64 r) ∧ Below W.heap.size W w' := h ▸ rcheck_ hN hD hsz
theorem rparents_ok {W : World} {D : Nat → Prop} {b o c : Nat} {ts : List VN} (hN : NodesD D W (.slice (some ⟨b, o, none⟩) ts.length c) ts) (hD : ∀ k, D k → k < W.heap.size) (hok : okT ts = true) :
    Calls Tryd.prog 43 #[.slice (some ⟨b, o, none⟩) ts.length c] W fun e w' => ∃ g c', e = .returned (.slice (some ⟨g, 0, none⟩) ts.length c') ∧ Own Z0 W w' [.row (.slice (some ⟨g, 0, none⟩) ts.length c') 3 1 ts.length (intCs (parsOf ts))] := by
  have hV := okT_val hok
  have hpos := hV.pos
  have hle := hV.le
  have O0 : Own Z0 W W [.ro D (fun w => NodesD D w (.slice (some ⟨b, o, none⟩) ts.length c) ts)] := (Own.start W).oldro (D := D) (p := (fun w => NodesD D w (.slice (some ⟨b, o, none⟩) ts.length c) ts)) (nodesE_holds hN hD)
  refine sx_enter (args := [.slice (some ⟨b, o, none⟩) ts.length c]) Tryd.func43 rfl rfl (by simp) ?_
  refine cw_seq (fun FK1 K1 => ?_)
  refine cw_region ?_
  refine wl_val (v := .slice none 0 0) (fun ρ e => ex_assign (e _ _ rfl)) rfl rfl ?_
  refine wl_nil ?_
  refine xw_next K1 ?_
  refine cw_seq (fun FK2 K2 => ?_)
  refine cw_seq (fun FK3 K3 => ?_)
  refine cw_region ?_
  refine wl_val (v := .slice (some ⟨b, o, none⟩) ts.length c) (fun ρ e => ex_move (e _ _ rfl)) rfl rfl ?_
  refine wl_call (args := [.slice (some ⟨b, o, none⟩) ts.length c]) in_41 rfl rfl rfl ?_
  refine (rcheckb_ (hN.move (fun k hk => (O0.old).block k (hD k hk))) (fun k hk => Nat.lt_of_lt_of_le (hD k hk) (O0.old).size) (by omega) (chk_val hok)).mono ?_
  rintro _ w4 ⟨rfl, hb5⟩
  have O6 : Own Z0 W w4 [.ro D (fun w => NodesD D w (.slice (some ⟨b, o, none⟩) ts.length c) ts)] := O0.below hb5
  refine ⟨_, rfl, ?_⟩
  refine wl_val (v := .bool false) (fun ρ e => ex_cmp (u := 0) (v := 0) (e _ _ rfl) (e _ _ rfl) (neq0 (by omega))) rfl rfl ?_
  refine wl_nil ?_
  refine xw_next K3 ?_
  refine cw_false rfl ?_
  refine cw_skip ?_
  refine xw_next K2 ?_
  refine cw_seq (fun FK7 K7 => ?_)
  refine cw_region ?_
  refine wl_val (v := .slice (some ⟨b, o, none⟩) ts.length c) (fun ρ e => ex_move (e _ _ rfl)) rfl rfl ?_
  refine wl_val (v := .int .i64 ((ts.length : Nat) : Int)) (fun ρ e => ex_len el23 (e _ _ rfl)) rfl rfl ?_
  obtain ⟨g8, w9, r10, O11, hg12, hs13⟩ := own_make1 O6 ap36 rfl ts.length (by decide) (by omega) (cs := (intCs (List.replicate ts.length 0)).toArray) (by simp [intCs])
  refine wl_val (v := .slice (some ⟨g8, 0, none⟩) ts.length ts.length) (fun ρ e => r10 ρ _ _ _ _ _ _ _ (e _ _ rfl) (e _ _ rfl)) rfl rfl ?_
  refine wl_val (v := .slice (some ⟨g8, 0, none⟩) ts.length ts.length) (fun ρ e => ex_assign (e _ _ rfl)) rfl rfl ?_
  refine wl_nil ?_
  refine xw_next K7 ?_
  refine cw_seq (fun FK14 K14 => ?_)
  refine cw_region ?_
  refine wl_val (v := .slice (some ⟨g8, 0, none⟩) ts.length ts.length) (fun ρ e => ex_move (e _ _ rfl)) rfl rfl ?_
  refine wl_val (v := .slice (some ⟨b, o, none⟩) ts.length c) (fun ρ e => ex_move (e _ _ rfl)) rfl rfl ?_
  refine wl_val (v := .int .i64 ((ts.length : Nat) : Int)) (fun ρ e => ex_len el23 (e _ _ rfl)) rfl rfl ?_
  refine wl_val (v := .int .i64 ((ts.length - 1 : Nat) : Int)) (fun ρ e => ex_arith (k := .i64) (u := ((ts.length : Nat) : Int)) (v := 1) (e _ _ rfl) (e _ _ rfl) (congrArg some ((congrArg _ (show _ = ((ts.length - 1 : Nat) : Int) by omega)).trans (wrap_in (by omega) (by omega))))) rfl rfl ?_
  refine wl_val (v := .pointer (some ⟨g8, (ts.length - 1), none⟩)) (fun ρ e => ex_idx (q := (ts.length - 1)) (i := ts.length - 1) el36 (e _ _ rfl) (e _ _ rfl) (by omega) (by omega)) rfl rfl ?_
  obtain ⟨w15, r16, O17, hs18⟩ := own_put (o := (ts.length - 1)) (n := 1) O11 ty3 (.int .i64 (-1)) [.int .i64 (-1)] (cs' := (intCs ((List.replicate ts.length 0).set (ts.length - 1) (-1))).toArray) rfl rfl rfl (by simp [intCs, upAt_len, upAtR_len] <;> omega) (setI _ (ts.length - 1) (-1))
  refine wl_none (fun ρ e => r16 ρ _ _ _ _ _ _ (e _ _ rfl) (e _ _ rfl)) rfl ?_
  refine wl_nil ?_
  refine xw_next K14 ?_
  refine cw_seq (fun FK19 K19 => ?_)
  refine cw_seq (fun FK20 K20 => ?_)
  refine cw_region ?_
  refine wl_val (v := .int .i64 0) (fun ρ e => ex_assign (e _ _ rfl)) rfl rfl ?_
  refine wl_nil ?_
  refine xw_next K20 ?_
  refine cw_block ?_
  have O21 : Own Z0 W w15 [.blk g8 3 ((intCs (upAtR ts 0)).toArray), .ro D (fun w => NodesD D w (.slice (some ⟨b, o, none⟩) ts.length c) ts)] := by rw [← upAtR_zero hV]; exact O17
  refine cw_loop (ι := Nat) (fun q => [(0, .slice (some ⟨b, o, none⟩) ts.length c), (3, .slice (some ⟨g8, 0, none⟩) ts.length ts.length), (4, .int .i64 (q : Int))]) (fun q X => (q ≤ ts.length) ∧ Own Z0 W X [.blk g8 3 ((intCs (upAtR ts q)).toArray), .ro D (fun w => NodesD D w (.slice (some ⟨b, o, none⟩) ts.length c) ts)]) (fun q => ts.length - q) 0 ⟨Nat.zero_le _, O21⟩ ⟨rfl, rfl, rfl, trivial⟩ (fun q w22 hJ F23 K24 => ?_)
  obtain ⟨i, rfl⟩ : ∃ x, x = q := ⟨_, rfl⟩
  obtain ⟨hi0, O25⟩ := hJ
  try dsimp only at hi0 O25 ⊢
  by_cases hi : i < ts.length
  · skip
    rcases hV.kind i _ (List.getElem?_eq_getElem hi) with ⟨v, hx0, h1, h2⟩ | ⟨a, b2, hx0, ha, hb, hab⟩
    · skip
      have hx : ts[i]? = some ⟨-1, -1, v⟩ := by rw [List.getElem?_eq_getElem hi, hx0]
      have hlf : (!(lf (VN.mk (-1) (-1) v))) = false := by rw [lf_leaf h1 h2]; rfl
      refine cw_seq (fun FK26 K26 => ?_)
      refine cw_seq (fun FK27 K27 => ?_)
      refine cw_region ?_
      refine wl_val (v := .int .i64 (i : Int)) (fun ρ e => ex_move (e _ _ rfl)) rfl rfl ?_
      refine wl_val (v := .slice (some ⟨b, o, none⟩) ts.length c) (fun ρ e => ex_move (e _ _ rfl)) rfl rfl ?_
      refine wl_val (v := .int .i64 ((ts.length : Nat) : Int)) (fun ρ e => ex_len el23 (e _ _ rfl)) rfl rfl ?_
      refine wl_val (v := .bool true) (fun ρ e => ex_cmp (u := (i : Int)) (v := ((ts.length : Nat) : Int)) (e _ _ rfl) (e _ _ rfl) (lss1 (by omega))) rfl rfl ?_
      refine wl_nil ?_
      refine xw_next K27 ?_
      refine cw_true rfl ?_
      refine cw_skip ?_
      refine xw_next K26 ?_
      refine cw_seq (fun FK28 K28 => ?_)
      refine cw_block ?_
      refine cw_seq (fun FK29 K29 => ?_)
      refine cw_region ?_
      refine wl_val (v := .slice (some ⟨b, o, none⟩) ts.length c) (fun ρ e => ex_move (e _ _ rfl)) rfl rfl ?_
      refine wl_val (v := .int .i64 (i : Int)) (fun ρ e => ex_move (e _ _ rfl)) rfl rfl ?_
      refine wl_val (v := .pointer (some ⟨b, o + i * 3, none⟩)) (fun ρ e => ex_idx (q := o + i * 3) (i := i) el23 (e _ _ rfl) (e _ _ rfl) (by omega) (by omega)) rfl rfl ?_
      refine wl_val (v := .agg #[.int .i64 (-1), .int .i64 (-1), .int .i64 v]) (fun ρ e => ex_loadN (vs := [.int .i64 (-1), .int .i64 (-1), .int .i64 v]) ty38 (e _ _ rfl) rfl (cells3 (NodesD.c0 ((O25.ro 1 rfl : (fun w => NodesD D w (.slice (some ⟨b, o, none⟩) ts.length c) ts) _) : NodesD _ _ _ _) hx) (NodesD.c1 ((O25.ro 1 rfl : (fun w => NodesD D w (.slice (some ⟨b, o, none⟩) ts.length c) ts) _) : NodesD _ _ _ _) hx) (NodesD.c2 ((O25.ro 1 rfl : (fun w => NodesD D w (.slice (some ⟨b, o, none⟩) ts.length c) ts) _) : NodesD _ _ _ _) hx))) rfl rfl ?_
      refine wl_call (args := [.agg #[.int .i64 (-1), .int .i64 (-1), .int .i64 v]]) in_72 rfl rfl rfl ?_
      refine (rleaf_ (VN.mk (-1) (-1) v) (W := w22)).mono ?_
      rintro _ w30 ⟨rfl, hb31⟩
      have O32 : Own Z0 W w30 [.blk g8 3 ((intCs (upAtR ts i)).toArray), .ro D (fun w => NodesD D w (.slice (some ⟨b, o, none⟩) ts.length c) ts)] := O25.below hb31
      refine ⟨_, rfl, ?_⟩
      refine wl_val (v := .bool (!(lf (VN.mk (-1) (-1) v)))) (fun ρ e => ex_lnot (b := (lf (VN.mk (-1) (-1) v))) (e _ _ rfl)) rfl rfl ?_
      refine wl_nil ?_
      refine xw_next K29 ?_
      refine cw_false (congrArg (fun b => some (Value.bool b)) hlf) ?_
      refine cw_skip ?_
      refine xw_block ?_
      refine xw_next K28 ?_
      refine cw_region ?_
      refine wl_val (v := .int .i64 (i : Int)) (fun ρ e => ex_move (e _ _ rfl)) rfl rfl ?_
      refine wl_val (v := .int .i64 ((i + 1 : Nat) : Int)) (fun ρ e => ex_arith (k := .i64) (u := (i : Int)) (v := 1) (e _ _ rfl) (e _ _ rfl) (congrArg some ((congrArg _ (by omega)).trans (wrap_in (u := ((i + 1 : Nat) : Int)) (by omega) (by omega))))) rfl rfl ?_
      refine wl_val (v := .int .i64 ((i + 1 : Nat) : Int)) (fun ρ e => ex_assign (e _ _ rfl)) rfl rfl ?_
      refine wl_nil ?_
      have O33 : Own Z0 W w30 [.blk g8 3 ((intCs (upAtR ts (i + 1))).toArray), .ro D (fun w => NodesD D w (.slice (some ⟨b, o, none⟩) ts.length c) ts)] := by rw [← upAtR_leaf hx h1 h2]; exact O32
      refine xw_round K24 (i + 1) (by show ts.length - (i + 1) < ts.length - i; omega) ⟨(by show i + 1 ≤ ts.length; omega), O33⟩ ⟨rfl, rfl, rfl, trivial⟩
    · skip
      have hx : ts[i]? = some ⟨(a : Int), (b2 : Int), 0⟩ := by rw [List.getElem?_eq_getElem hi, hx0]
      have hlf : (!(lf (VN.mk (a : Int) (b2 : Int) 0))) = true := by rw [lf_inner a b2]; rfl
      refine cw_seq (fun FK34 K34 => ?_)
      refine cw_seq (fun FK35 K35 => ?_)
      refine cw_region ?_
      refine wl_val (v := .int .i64 (i : Int)) (fun ρ e => ex_move (e _ _ rfl)) rfl rfl ?_
      refine wl_val (v := .slice (some ⟨b, o, none⟩) ts.length c) (fun ρ e => ex_move (e _ _ rfl)) rfl rfl ?_
      refine wl_val (v := .int .i64 ((ts.length : Nat) : Int)) (fun ρ e => ex_len el23 (e _ _ rfl)) rfl rfl ?_
      refine wl_val (v := .bool true) (fun ρ e => ex_cmp (u := (i : Int)) (v := ((ts.length : Nat) : Int)) (e _ _ rfl) (e _ _ rfl) (lss1 (by omega))) rfl rfl ?_
      refine wl_nil ?_
      refine xw_next K35 ?_
      refine cw_true rfl ?_
      refine cw_skip ?_
      refine xw_next K34 ?_
      refine cw_seq (fun FK36 K36 => ?_)
      refine cw_block ?_
      refine cw_seq (fun FK37 K37 => ?_)
      refine cw_region ?_
      refine wl_val (v := .slice (some ⟨b, o, none⟩) ts.length c) (fun ρ e => ex_move (e _ _ rfl)) rfl rfl ?_
      refine wl_val (v := .int .i64 (i : Int)) (fun ρ e => ex_move (e _ _ rfl)) rfl rfl ?_
      refine wl_val (v := .pointer (some ⟨b, o + i * 3, none⟩)) (fun ρ e => ex_idx (q := o + i * 3) (i := i) el23 (e _ _ rfl) (e _ _ rfl) (by omega) (by omega)) rfl rfl ?_
      refine wl_val (v := .agg #[.int .i64 (a : Int), .int .i64 (b2 : Int), .int .i64 0]) (fun ρ e => ex_loadN (vs := [.int .i64 (a : Int), .int .i64 (b2 : Int), .int .i64 0]) ty38 (e _ _ rfl) rfl (cells3 (NodesD.c0 ((O25.ro 1 rfl : (fun w => NodesD D w (.slice (some ⟨b, o, none⟩) ts.length c) ts) _) : NodesD _ _ _ _) hx) (NodesD.c1 ((O25.ro 1 rfl : (fun w => NodesD D w (.slice (some ⟨b, o, none⟩) ts.length c) ts) _) : NodesD _ _ _ _) hx) (NodesD.c2 ((O25.ro 1 rfl : (fun w => NodesD D w (.slice (some ⟨b, o, none⟩) ts.length c) ts) _) : NodesD _ _ _ _) hx))) rfl rfl ?_
      refine wl_call (args := [.agg #[.int .i64 (a : Int), .int .i64 (b2 : Int), .int .i64 0]]) in_72 rfl rfl rfl ?_
      refine (rleaf_ (VN.mk (a : Int) (b2 : Int) 0) (W := w22)).mono ?_
      rintro _ w38 ⟨rfl, hb39⟩
      have O40 : Own Z0 W w38 [.blk g8 3 ((intCs (upAtR ts i)).toArray), .ro D (fun w => NodesD D w (.slice (some ⟨b, o, none⟩) ts.length c) ts)] := O25.below hb39
      refine ⟨_, rfl, ?_⟩
      refine wl_val (v := .bool (!(lf (VN.mk (a : Int) (b2 : Int) 0)))) (fun ρ e => ex_lnot (b := (lf (VN.mk (a : Int) (b2 : Int) 0))) (e _ _ rfl)) rfl rfl ?_
      refine wl_nil ?_
      refine xw_next K37 ?_
      refine cw_true (congrArg (fun b => some (Value.bool b)) hlf) ?_
      refine cw_seq (fun FK41 K41 => ?_)
      refine cw_region ?_
      refine wl_val (v := .slice (some ⟨g8, 0, none⟩) ts.length ts.length) (fun ρ e => ex_move (e _ _ rfl)) rfl rfl ?_
      refine wl_val (v := .slice (some ⟨b, o, none⟩) ts.length c) (fun ρ e => ex_move (e _ _ rfl)) rfl rfl ?_
      refine wl_val (v := .int .i64 (i : Int)) (fun ρ e => ex_move (e _ _ rfl)) rfl rfl ?_
      refine wl_val (v := .pointer (some ⟨b, o + i * 3, none⟩)) (fun ρ e => ex_idx (q := o + i * 3) (i := i) el23 (e _ _ rfl) (e _ _ rfl) (by omega) (by omega)) rfl rfl ?_
      refine wl_val (v := .pointer (some ⟨b, o + i * 3, none⟩)) (fun ρ e => ex_field (q := o + i * 3) fi38_0 (e _ _ rfl) rfl) rfl rfl ?_
      refine wl_val (v := .int .i64 (a : Int)) (fun ρ e => ex_load1 ty3 (e _ _ rfl) (NodesD.c0 ((O40.ro 1 rfl : (fun w => NodesD D w (.slice (some ⟨b, o, none⟩) ts.length c) ts) _) : NodesD _ _ _ _) hx)) rfl rfl ?_
      refine wl_val (v := .int .i64 (i : Int)) (fun ρ e => ex_move (e _ _ rfl)) rfl rfl ?_
      refine wl_val (v := .pointer (some ⟨g8, a, none⟩)) (fun ρ e => ex_idx (q := a) (i := a) el36 (e _ _ rfl) (e _ _ rfl) (by omega) (by omega)) rfl rfl ?_
      obtain ⟨w42, r43, O44, hs45⟩ := own_put (o := a) (n := 1) O40 ty3 (.int .i64 (i : Int)) [.int .i64 (i : Int)] (cs' := (intCs ((upAtR ts i).set a (i : Int))).toArray) rfl rfl rfl (by simp [intCs, upAt_len, upAtR_len] <;> omega) (setI _ a (i : Int))
      refine wl_none (fun ρ e => r43 ρ _ _ _ _ _ _ (e _ _ rfl) (e _ _ rfl)) rfl ?_
      refine wl_nil ?_
      refine xw_next K41 ?_
      refine cw_region ?_
      refine wl_val (v := .slice (some ⟨g8, 0, none⟩) ts.length ts.length) (fun ρ e => ex_move (e _ _ rfl)) rfl rfl ?_
      refine wl_val (v := .slice (some ⟨b, o, none⟩) ts.length c) (fun ρ e => ex_move (e _ _ rfl)) rfl rfl ?_
      refine wl_val (v := .int .i64 (i : Int)) (fun ρ e => ex_move (e _ _ rfl)) rfl rfl ?_
      refine wl_val (v := .pointer (some ⟨b, o + i * 3, none⟩)) (fun ρ e => ex_idx (q := o + i * 3) (i := i) el23 (e _ _ rfl) (e _ _ rfl) (by omega) (by omega)) rfl rfl ?_
      refine wl_val (v := .pointer (some ⟨b, o + i * 3 + 1, none⟩)) (fun ρ e => ex_field (q := o + i * 3 + 1) fi38_1 (e _ _ rfl) rfl) rfl rfl ?_
      refine wl_val (v := .int .i64 (b2 : Int)) (fun ρ e => ex_load1 ty3 (e _ _ rfl) (NodesD.c1 ((O44.ro 1 rfl : (fun w => NodesD D w (.slice (some ⟨b, o, none⟩) ts.length c) ts) _) : NodesD _ _ _ _) hx)) rfl rfl ?_
      refine wl_val (v := .int .i64 (i : Int)) (fun ρ e => ex_move (e _ _ rfl)) rfl rfl ?_
      refine wl_val (v := .pointer (some ⟨g8, b2, none⟩)) (fun ρ e => ex_idx (q := b2) (i := b2) el36 (e _ _ rfl) (e _ _ rfl) (by omega) (by omega)) rfl rfl ?_
      obtain ⟨w46, r47, O48, hs49⟩ := own_put (o := b2) (n := 1) O44 ty3 (.int .i64 (i : Int)) [.int .i64 (i : Int)] (cs' := (intCs (((upAtR ts i).set a (i : Int)).set b2 (i : Int))).toArray) rfl rfl rfl (by simp [intCs, upAt_len, upAtR_len] <;> omega) (setI _ b2 (i : Int))
      refine wl_none (fun ρ e => r47 ρ _ _ _ _ _ _ (e _ _ rfl) (e _ _ rfl)) rfl ?_
      refine wl_nil ?_
      refine xw_block ?_
      refine xw_next K36 ?_
      refine cw_region ?_
      refine wl_val (v := .int .i64 (i : Int)) (fun ρ e => ex_move (e _ _ rfl)) rfl rfl ?_
      refine wl_val (v := .int .i64 ((i + 1 : Nat) : Int)) (fun ρ e => ex_arith (k := .i64) (u := (i : Int)) (v := 1) (e _ _ rfl) (e _ _ rfl) (congrArg some ((congrArg _ (by omega)).trans (wrap_in (u := ((i + 1 : Nat) : Int)) (by omega) (by omega))))) rfl rfl ?_
      refine wl_val (v := .int .i64 ((i + 1 : Nat) : Int)) (fun ρ e => ex_assign (e _ _ rfl)) rfl rfl ?_
      refine wl_nil ?_
      have O50 : Own Z0 W w46 [.blk g8 3 ((intCs (upAtR ts (i + 1))).toArray), .ro D (fun w => NodesD D w (.slice (some ⟨b, o, none⟩) ts.length c) ts)] := by rw [← upAtR_node hV hx]; exact O48
      refine xw_round K24 (i + 1) (by show ts.length - (i + 1) < ts.length - i; omega) ⟨(by show i + 1 ≤ ts.length; omega), O50⟩ ⟨rfl, rfl, rfl, trivial⟩
  · have hie : i = ts.length := by omega
    rw [hie, upAtR_all hV] at O25
    refine cw_seq (fun FK51 K51 => ?_)
    refine cw_seq (fun FK52 K52 => ?_)
    refine cw_region ?_
    refine wl_val (v := .int .i64 (i : Int)) (fun ρ e => ex_move (e _ _ rfl)) rfl rfl ?_
    refine wl_val (v := .slice (some ⟨b, o, none⟩) ts.length c) (fun ρ e => ex_move (e _ _ rfl)) rfl rfl ?_
    refine wl_val (v := .int .i64 ((ts.length : Nat) : Int)) (fun ρ e => ex_len el23 (e _ _ rfl)) rfl rfl ?_
    refine wl_val (v := .bool false) (fun ρ e => ex_cmp (u := (i : Int)) (v := ((ts.length : Nat) : Int)) (e _ _ rfl) (e _ _ rfl) (lss0 (by omega))) rfl rfl ?_
    refine wl_nil ?_
    refine xw_next K52 ?_
    refine cw_false rfl ?_
    refine cw_exit ?_
    refine xw_past (by intro h; cases h) ?_
    refine xw_past (by intro h; cases h) ?_
    refine xw_here ?_
    refine xw_next K19 ?_
    refine cw_seq (fun FK53 K53 => ?_)
    refine cw_region ?_
    refine wl_val (v := .slice (some ⟨g8, 0, none⟩) ts.length ts.length) (fun ρ e => ex_move (e _ _ rfl)) rfl rfl ?_
    refine wl_val (v := .slice (some ⟨g8, 0, none⟩) ts.length ts.length) (fun ρ e => ex_assign (e _ _ rfl)) rfl rfl ?_
    refine wl_nil ?_
    refine xw_next K53 ?_
    refine cw_ret ?_
    refine xw_ret (v := .slice (some ⟨g8, 0, none⟩) ts.length ts.length) (fun T hT => res1 rfl T _ (hT 2 _ rfl)) ?_
    have O54 := Own.blkrow (xs := intCs (parsOf ts)) (n := ts.length) (O25.re [0] rfl : Own Z0 W w22 [.blk g8 3 ((intCs (parsOf ts)).toArray)]) rfl (by simp [intCs, parsOf_len]) (by omega)
    exact ⟨g8, ts.length, rfl, O54⟩
theorem rparents_no {W : World} {D : Nat → Prop} {V : Value} {ts : List VN} (hN : NodesD D W V ts) (hD : ∀ k, D k → k < W.heap.size) (hsz : ts.length ≤ 1000000) (hok : okT ts = false) : Calls Tryd.prog 43 #[V] W fun e w' => e = .returned (.slice none 0 0) ∧ Below W.heap.size W w' := by
  obtain ⟨A, c, rfl⟩ := hN.slice
  have O0 : Own Z0 W W [] := Own.start W
  refine sx_enter (args := [.slice A ts.length c]) Tryd.func43 rfl rfl (by simp) ?_
  refine cw_seq (fun FK1 K1 => ?_)
  refine cw_region ?_
  refine wl_val (v := .slice none 0 0) (fun ρ e => ex_assign (e _ _ rfl)) rfl rfl ?_
  refine wl_nil ?_
  refine xw_next K1 ?_
  refine cw_seq (fun FK2 K2 => ?_)
  refine cw_seq (fun FK3 K3 => ?_)
  refine cw_region ?_
  refine wl_val (v := .slice A ts.length c) (fun ρ e => ex_move (e _ _ rfl)) rfl rfl ?_
  refine wl_call (args := [.slice A ts.length c]) in_41 rfl rfl rfl ?_
  refine (rcheckb_ (hN.move (fun k hk => (O0.old).block k (hD k hk))) (fun k hk => Nat.lt_of_lt_of_le (hD k hk) (O0.old).size) (by omega) (chk_val hok)).mono ?_
  rintro _ w4 ⟨rfl, hb5⟩
  have O6 : Own Z0 W w4 [] := O0.below hb5
  refine ⟨_, rfl, ?_⟩
  refine wl_val (v := .bool true) (fun ρ e => ex_cmp (u := 1) (v := 0) (e _ _ rfl) (e _ _ rfl) (neq1 (by omega))) rfl rfl ?_
  refine wl_nil ?_
  refine xw_next K3 ?_
  refine cw_true rfl ?_
  refine cw_seq (fun FK7 K7 => ?_)
  refine cw_region ?_
  refine wl_val (v := .slice none 0 0) (fun ρ e => ex_assign (e _ _ rfl)) rfl rfl ?_
  refine wl_nil ?_
  refine xw_next K7 ?_
  refine cw_ret ?_
  refine xw_past (by intro h; cases h) ?_
  refine xw_ret (v := .slice none 0 0) (fun T hT => res1 rfl T _ (hT 2 _ rfl)) ?_
  exact ⟨rfl, O6.old⟩
end Go.Proofs.YtpeoodkepjhhiaaDoor
namespace Go.Proofs.YtpeoodkepjhhiaaDoor

def setT : Tr → VS
  | .leaf v => VS.empty.with_ v
  | .node a b => (setT a).union (setT b)
theorem has_setT (u : Int) (h1 : 1 ≤ u) (h2 : u ≤ 128) : ∀ T : Tr, (setT T).has u = decide (u ∈ T.leaves)
  | .leaf v => by
    simp only [setT, VS.has_with, VS.has_empty, Bool.false_or, Tr.leaves, List.mem_singleton]
    rw [Bool.eq_iff_iff]
    simp only [Bool.and_eq_true, decide_eq_true_eq]
    constructor
    · exact fun h => h.2
    · rintro rfl; exact ⟨⟨h1, h2⟩, rfl⟩
  | .node a b => by
    simp only [setT, VS.has_union, has_setT u h1 h2 a, has_setT u h1 h2 b, Tr.leaves, List.mem_append, Bool.decide_or]
theorem setT_apart {A B : Tr} (h : ∀ v ∈ A.leaves, v ∉ B.leaves) : (setT A).cut (setT B) = VS.empty := by
  apply VS.ext_has
  intro u h1 h2
  rw [VS.has_cut, VS.has_empty, has_setT u h1 h2, has_setT u h1 h2]
  by_cases ha : u ∈ A.leaves
  · simp [ha, h u ha]
  · simp [ha]
theorem setT_sum {A B : Tr} (h : ∀ v ∈ A.leaves, v ∉ B.leaves) : (setT A).a + (setT B).a = (setT (.node A B)).a ∧ (setT A).b + (setT B).b = (setT (.node A B)).b := by
  have e := setT_apart h
  unfold VS.cut VS.empty at e
  injection e with e1 e2
  exact ⟨BitVec.add_eq_or_of_and_eq_zero _ _ e1, BitVec.add_eq_or_of_and_eq_zero _ _ e2⟩
def upS (ts : List VN) (i : Nat) : List VS := (List.range ts.length).map fun k => if k < i then setT (trF ts ts.length k) else VS.empty
def setsOf (ts : List VN) : List VS := (List.range ts.length).map fun k => setT (trF ts ts.length k)
theorem upS_len (ts : List VN) (i : Nat) : (upS ts i).length = ts.length := by simp [upS]
theorem setsOf_len (ts : List VN) : (setsOf ts).length = ts.length := by simp [setsOf]
theorem upS_get {ts : List VN} {i k : Nat} (h : k < ts.length) (hk : k < i) : (upS ts i)[k]? = some (setT (trF ts ts.length k)) := by simp [upS, h, hk]
theorem upS_new {ts : List VN} {i : Nat} (h : i < ts.length) : (upS ts i)[i]? = some VS.empty := by simp [upS, h]
theorem upS_zero (ts : List VN) : upS ts 0 = List.replicate ts.length VS.empty := by
  apply List.ext_getElem?
  intro k
  by_cases h : k < ts.length <;> simp [upS, h]
theorem upS_all (ts : List VN) : upS ts ts.length = setsOf ts := by
  unfold upS setsOf
  refine List.map_congr_left fun k hk => ?_
  rw [if_pos (List.mem_range.1 hk)]
theorem upS_set {ts : List VN} {i : Nat} (hi : i < ts.length) : (upS ts i).set i (setT (trF ts ts.length i)) = upS ts (i + 1) := by
  apply List.ext_getElem?
  intro k
  rw [List.getElem?_set]
  by_cases hk : k < ts.length
  · by_cases e : i = k
    · subst e
      simp [upS, hi]
    · by_cases hlt : k < i
      · simp [upS, hk, e, hlt, show k < i + 1 by omega]
      · simp [upS, hk, e, hlt, show ¬ k < i + 1 by omega]
  · simp [upS, hk]; omega
section
variable {ts : List VN}
theorem tr_leaf {i : Nat} {v : Int} (h : ts[i]? = some ⟨-1, -1, v⟩) (h1 : 1 ≤ v) (h2 : v ≤ 128) : trF ts ts.length i = .leaf v := by
  obtain ⟨n, hn⟩ : ∃ m, ts.length = m + 1 := ⟨ts.length - 1, by have := (List.getElem?_eq_some_iff.1 h).1; omega⟩
  rw [hn]
  exact trF_leaf h h1 h2
theorem tr_node (hV : Val ts) {i a b : Nat} (h : ts[i]? = some ⟨(a : Int), (b : Int), 0⟩) : trF ts ts.length i = .node (trF ts ts.length a) (trF ts ts.length b) := by
  obtain ⟨h1, h2, _, h3⟩ := hV.in_ h
  obtain ⟨n, hn⟩ : ∃ m, ts.length = m + 1 := ⟨ts.length - 1, by omega⟩
  have e := trF_node (n := n) h
  rw [← hn] at e
  rw [e, trF_more hV (n := n) (m := ts.length) (j := a) (by omega) (by omega) (by omega), trF_more hV (n := n) (m := ts.length) (j := b) (by omega) (by omega) (by omega)]
theorem kids_apart (hV : Val ts) {i a b : Nat} (h : ts[i]? = some ⟨(a : Int), (b : Int), 0⟩) : ∀ v ∈ (trF ts ts.length a).leaves, v ∉ (trF ts ts.length b).leaves := by
  obtain ⟨h1, h2, _, h3⟩ := hV.in_ h
  obtain ⟨va, hA⟩ := At.get hV (n := ts.length) (j := a) (by omega) (by omega)
  obtain ⟨vb, hB⟩ := At.get hV (n := ts.length) (j := b) (by omega) (by omega)
  have hn := (At.node (f := idF) h rfl hA hB).leaves_nodup hV
  intro v hv hv2
  exact (List.nodup_append.1 hn).2.2 v hv v hv2 rfl
end
end Go.Proofs.YtpeoodkepjhhiaaDoor
