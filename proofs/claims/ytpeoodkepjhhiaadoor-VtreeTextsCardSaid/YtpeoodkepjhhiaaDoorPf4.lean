/-
  Lemmas and contracts, joined: Vbuild Vworks Post Open Post2 Vopen Vgt Vgrow Vopen2 Vleaves.
-/
import Derived.Test.YtpeoodkepjhhiaaDoorPf3
import Derived.Test.YtpeoodkepjhhiaaDoorRows
import Derived.WalkKit
import Derived.ProofKit
import Derived.OpenShut
import Derived.Below
import Derived.ChangeSame
import Derived.Test.YtpeoodkepjhhiaaDoorPf1
import Derived.Carry
import Derived.Deep.Slices
import Derived.Deep.Fields
import Derived.Lib.SmallJoins
import Derived.DataReads
import Derived.Test.YtpeoodkepjhhiaaDoorCards
import Derived.Test.YtpeoodkepjhhiaaDoorTie
import Derived.Lib.LaidU8
import Derived.LaidMore
import Derived.Lay
import Derived.Stop.Joined
namespace Go.Proofs.YtpeoodkepjhhiaaDoor
open Go Go.RowKit
theorem IntsD.cellq {D : Nat → Prop} {w : World} {b o n c k : Nat} {xs : List Int} {x : Int} (h : IntsD D w (.slice (some ⟨b, o, none⟩) n c) xs) (hk : xs[k]? = some x) : w.cell? ⟨b, o + k, none⟩ = some (.int .i64 x) := by
  obtain ⟨hl, rfl⟩ := List.getElem?_eq_some_iff.1 hk
  exact h.cell hl
theorem ordered_ {W : World} {D : Nat → Prop} {V : Value} {l : List Int} (hI : IntsD D W V l) (hD : ∀ k, D k → k < W.heap.size) (hsz : l.length ≤ 1000000) :
    Calls Tryd.prog 75 #[V] W fun e w' => e = .returned (.bool (ordB l)) ∧ Below W.heap.size W w' := by
  obtain ⟨A, c, rfl⟩ := hI.slice
  rcases Nat.eq_zero_or_pos l.length with h0 | h0
  · skip
    have O0 : Own Z0 W W [] := Own.start W
    refine sx_enter (args := [.slice A l.length c]) Tryd.func75 rfl rfl (by simp) ?_
    refine cw_seq (fun FK1 K1 => ?_)
    refine cw_region ?_
    refine wl_val (v := .bool false) (fun ρ e => ex_assign (e _ _ rfl)) rfl rfl ?_
    refine wl_nil ?_
    refine xw_next K1 ?_
    refine cw_seq (fun FK2 K2 => ?_)
    refine cw_region ?_
    obtain ⟨g3, w4, r5, O6, hg7, hs8⟩ := own_alloc O0 70 ze70 (cs := (boolCs (flagL 129 [])).toArray) (by rw [flagL_nil]; simp [boolCs, Value.cells])
    refine wl_val (v := .pointer (some ⟨g3, 0, none⟩)) (fun ρ e => r5 ρ _ _ _ _ _) rfl rfl ?_
    refine wl_nil ?_
    refine xw_next K2 ?_
    refine cw_seq (fun FK9 K9 => ?_)
    refine cw_seq (fun FK10 K10 => ?_)
    refine cw_region ?_
    refine wl_val (v := .slice A l.length c) (fun ρ e => ex_move (e _ _ rfl)) rfl rfl ?_
    refine wl_val (v := .int .i64 ((l.length : Nat) : Int)) (fun ρ e => ex_len el36 (e _ _ rfl)) rfl rfl ?_
    refine wl_val (v := .int .i64 0) (fun ρ e => ex_move (e _ _ rfl)) rfl rfl ?_
    refine wl_nil ?_
    refine xw_next K10 ?_
    refine cw_block ?_
    have O11 : Own Z0 W w4 [.blk g3 70 ((boolCs (flagL 129 [])).toArray)] := O6
    refine cw_loop (ι := Nat) (fun q => [(0, .slice A l.length c), (3, .pointer (some ⟨g3, 0, none⟩)), (6, .slice A l.length c), (7, .int .i64 ((l.length : Nat) : Int)), (8, .int .i64 (q : Int))]) (fun q X => (q ≤ l.length) ∧ (opreB (l.take q) = true) ∧ Own Z0 W X [.blk g3 70 ((boolCs (flagL 129 (l.take q))).toArray)]) (fun q => l.length - q) 0 ⟨Nat.zero_le _, (by rw [List.take_zero]; rfl), O11⟩ ⟨rfl, rfl, rfl, rfl, rfl, trivial⟩ (fun q w12 hJ F13 K14 => ?_)
    obtain ⟨i, rfl⟩ : ∃ x, x = q := ⟨_, rfl⟩
    obtain ⟨hi0, hp, O15⟩ := hJ
    try dsimp only at hi0 hp O15 ⊢
    by_cases hi : i < l.length
    · skip
      exact absurd hi (by omega)
    · have hie : i = l.length := by omega
      refine cw_seq (fun FK16 K16 => ?_)
      refine cw_region ?_
      refine wl_val (v := .bool false) (fun ρ e => ex_cmp (u := (i : Int)) (v := ((l.length : Nat) : Int)) (e _ _ rfl) (e _ _ rfl) (lss0 (by omega))) rfl rfl ?_
      refine wl_nil ?_
      refine xw_next K16 ?_
      refine cw_seq (fun FK17 K17 => ?_)
      refine cw_false rfl ?_
      refine cw_exit ?_
      refine xw_past (by intro h; cases h) ?_
      refine xw_past (by intro h; cases h) ?_
      refine xw_here ?_
      refine xw_next K9 ?_
      refine cw_seq (fun FK18 K18 => ?_)
      refine cw_region ?_
      refine wl_val (v := .slice A l.length c) (fun ρ e => ex_move (e _ _ rfl)) rfl rfl ?_
      refine wl_val (v := .int .i64 ((l.length : Nat) : Int)) (fun ρ e => ex_len el36 (e _ _ rfl)) rfl rfl ?_
      refine wl_val (v := .bool false) (fun ρ e => ex_cmp (u := ((l.length : Nat) : Int)) (v := 0) (e _ _ rfl) (e _ _ rfl) (gtr0 (by omega))) rfl rfl ?_
      refine wl_val (v := .bool false) (fun ρ e => ex_assign (e _ _ rfl)) rfl rfl ?_
      refine wl_nil ?_
      refine xw_next K18 ?_
      refine cw_ret ?_
      refine xw_ret (v := .bool false) (fun T hT => res1 rfl T _ (hT 2 _ rfl)) ?_
      rw [hie, List.take_length] at hp
      have hr : ordB l = false := Bool.eq_false_iff.2 fun q => by have := (ordB_iff.1 q).1; omega
      rw [hr]
      exact ⟨rfl, O15.old⟩
  · obtain ⟨b, o, c', hv0⟩ := hI.form h0
    injection hv0 with hA _ hc
    subst hA hc
    have O0 : Own Z0 W W [.ro D (fun w => IntsD D w (.slice (some ⟨b, o, none⟩) l.length c) l)] := (Own.start W).oldro (D := D) (p := (fun w => IntsD D w (.slice (some ⟨b, o, none⟩) l.length c) l)) (inE_holds hI hD)
    refine sx_enter (args := [.slice (some ⟨b, o, none⟩) l.length c]) Tryd.func75 rfl rfl (by simp) ?_
    refine cw_seq (fun FK19 K19 => ?_)
    refine cw_region ?_
    refine wl_val (v := .bool false) (fun ρ e => ex_assign (e _ _ rfl)) rfl rfl ?_
    refine wl_nil ?_
    refine xw_next K19 ?_
    refine cw_seq (fun FK20 K20 => ?_)
    refine cw_region ?_
    obtain ⟨g21, w22, r23, O24, hg25, hs26⟩ := own_alloc O0 70 ze70 (cs := (boolCs (flagL 129 [])).toArray) (by rw [flagL_nil]; simp [boolCs, Value.cells])
    refine wl_val (v := .pointer (some ⟨g21, 0, none⟩)) (fun ρ e => r23 ρ _ _ _ _ _) rfl rfl ?_
    refine wl_nil ?_
    refine xw_next K20 ?_
    refine cw_seq (fun FK27 K27 => ?_)
    refine cw_seq (fun FK28 K28 => ?_)
    refine cw_region ?_
    refine wl_val (v := .slice (some ⟨b, o, none⟩) l.length c) (fun ρ e => ex_move (e _ _ rfl)) rfl rfl ?_
    refine wl_val (v := .int .i64 ((l.length : Nat) : Int)) (fun ρ e => ex_len el36 (e _ _ rfl)) rfl rfl ?_
    refine wl_val (v := .int .i64 0) (fun ρ e => ex_move (e _ _ rfl)) rfl rfl ?_
    refine wl_nil ?_
    refine xw_next K28 ?_
    refine cw_block ?_
    have O29 : Own Z0 W w22 [.blk g21 70 ((boolCs (flagL 129 [])).toArray), .ro D (fun w => IntsD D w (.slice (some ⟨b, o, none⟩) l.length c) l)] := O24
    refine cw_loop (ι := Nat) (fun q => [(0, .slice (some ⟨b, o, none⟩) l.length c), (3, .pointer (some ⟨g21, 0, none⟩)), (6, .slice (some ⟨b, o, none⟩) l.length c), (7, .int .i64 ((l.length : Nat) : Int)), (8, .int .i64 (q : Int))]) (fun q X => (q ≤ l.length) ∧ (opreB (l.take q) = true) ∧ Own Z0 W X [.blk g21 70 ((boolCs (flagL 129 (l.take q))).toArray), .ro D (fun w => IntsD D w (.slice (some ⟨b, o, none⟩) l.length c) l)]) (fun q => l.length - q) 0 ⟨Nat.zero_le _, (by rw [List.take_zero]; rfl), O29⟩ ⟨rfl, rfl, rfl, rfl, rfl, trivial⟩ (fun q w30 hJ F31 K32 => ?_)
    obtain ⟨i, rfl⟩ : ∃ x, x = q := ⟨_, rfl⟩
    obtain ⟨hi0, hp, O33⟩ := hJ
    try dsimp only at hi0 hp O33 ⊢
    by_cases hi : i < l.length
    · skip
      obtain ⟨v, hv⟩ : ∃ v, l[i]? = some v := ⟨l[i], List.getElem?_eq_getElem hi⟩
      have htk : l.take (i + 1) = l.take i ++ [v] := take_more hv
      refine cw_seq (fun FK34 K34 => ?_)
      refine cw_region ?_
      refine wl_val (v := .bool true) (fun ρ e => ex_cmp (u := (i : Int)) (v := ((l.length : Nat) : Int)) (e _ _ rfl) (e _ _ rfl) (lss1 (by omega))) rfl rfl ?_
      refine wl_nil ?_
      refine xw_next K34 ?_
      refine cw_seq (fun FK35 K35 => ?_)
      refine cw_true rfl ?_
      refine cw_skip ?_
      refine xw_next K35 ?_
      refine cw_seq (fun FK36 K36 => ?_)
      refine cw_block ?_
      refine cw_seq (fun FK37 K37 => ?_)
      refine cw_region ?_
      refine wl_val (v := .pointer (some ⟨b, o + i, none⟩)) (fun ρ e => ex_idx (q := o + i) (i := i) el36 (e _ _ rfl) (e _ _ rfl) (by omega) (by omega)) rfl rfl ?_
      refine wl_val (v := .int .i64 v) (fun ρ e => ex_load1 ty3 (e _ _ rfl) (IntsD.cellq ((O33.ro 1 rfl) : IntsD _ _ (.slice (some ⟨b, o, none⟩) l.length c) l) hv)) rfl rfl ?_
      refine wl_val (v := .int .i64 v) (fun ρ e => ex_assign (e _ _ rfl)) rfl rfl ?_
      refine wl_nil ?_
      refine xw_next K37 ?_
      refine cw_seq (fun FK38 K38 => ?_)
      refine cw_seq (fun FK39 K39 => ?_)
      refine cw_region ?_
      refine wl_val (v := .int .i64 v) (fun ρ e => ex_move (e _ _ rfl)) rfl rfl ?_
      by_cases c40 : v < 1
      · skip
        refine wl_val (v := .bool true) (fun ρ e => ex_cmp (u := v) (v := 1) (e _ _ rfl) (e _ _ rfl) (lss1 (by omega))) rfl rfl ?_
        refine wl_val (v := .bool true) (fun ρ e => ex_move (e _ _ rfl)) rfl rfl ?_
        refine wl_skip rfl rfl ?_
        refine wl_skip rfl rfl ?_
        refine wl_val (v := .bool true) (fun ρ e => ex_pick1 (e _ _ rfl) (e _ _ rfl)) rfl rfl ?_
        refine wl_val (v := .bool true) (fun ρ e => ex_move (e _ _ rfl)) rfl rfl ?_
        refine wl_skip rfl rfl ?_
        refine wl_skip rfl rfl ?_
        refine wl_skip rfl rfl ?_
        refine wl_val (v := .bool true) (fun ρ e => ex_pick1 (e _ _ rfl) (e _ _ rfl)) rfl rfl ?_
        refine wl_nil ?_
        refine xw_next K39 ?_
        refine cw_true rfl ?_
        refine cw_seq (fun FK41 K41 => ?_)
        refine cw_region ?_
        refine wl_val (v := .bool false) (fun ρ e => ex_assign (e _ _ rfl)) rfl rfl ?_
        refine wl_nil ?_
        refine xw_next K41 ?_
        refine cw_ret ?_
        refine xw_past (by intro h; cases h) ?_
        refine xw_blockret ?_
        refine xw_past (by intro h; cases h) ?_
        refine xw_past (by intro h; cases h) ?_
        refine xw_blockret ?_
        refine xw_past (by intro h; cases h) ?_
        refine xw_ret (v := .bool false) (fun T hT => res1 rfl T _ (hT 2 _ rfl)) ?_
        have hno : ordB l = false := Bool.eq_false_iff.2 fun q => by have q2 := opre_take (ordB_iff.1 q).2 (i + 1); rw [htk, opre_snoc hp] at q2; first | omega | (have := q2.2.2; simp_all)
        rw [hno]
        exact ⟨rfl, O33.old⟩
      · skip
        refine wl_val (v := .bool false) (fun ρ e => ex_cmp (u := v) (v := 1) (e _ _ rfl) (e _ _ rfl) (lss0 (by omega))) rfl rfl ?_
        refine wl_val (v := .bool false) (fun ρ e => ex_move (e _ _ rfl)) rfl rfl ?_
        refine wl_val (v := .int .i64 v) (fun ρ e => ex_move (e _ _ rfl)) rfl rfl ?_
        by_cases c42 : v > 128
        · skip
          refine wl_val (v := .bool true) (fun ρ e => ex_cmp (u := v) (v := 128) (e _ _ rfl) (e _ _ rfl) (gtr1 (by omega))) rfl rfl ?_
          refine wl_val (v := .bool true) (fun ρ e => ex_pick0 (e _ _ rfl) (e _ _ rfl)) rfl rfl ?_
          refine wl_val (v := .bool true) (fun ρ e => ex_move (e _ _ rfl)) rfl rfl ?_
          refine wl_skip rfl rfl ?_
          refine wl_skip rfl rfl ?_
          refine wl_skip rfl rfl ?_
          refine wl_val (v := .bool true) (fun ρ e => ex_pick1 (e _ _ rfl) (e _ _ rfl)) rfl rfl ?_
          refine wl_nil ?_
          refine xw_next K39 ?_
          refine cw_true rfl ?_
          refine cw_seq (fun FK43 K43 => ?_)
          refine cw_region ?_
          refine wl_val (v := .bool false) (fun ρ e => ex_assign (e _ _ rfl)) rfl rfl ?_
          refine wl_nil ?_
          refine xw_next K43 ?_
          refine cw_ret ?_
          refine xw_past (by intro h; cases h) ?_
          refine xw_blockret ?_
          refine xw_past (by intro h; cases h) ?_
          refine xw_past (by intro h; cases h) ?_
          refine xw_blockret ?_
          refine xw_past (by intro h; cases h) ?_
          refine xw_ret (v := .bool false) (fun T hT => res1 rfl T _ (hT 2 _ rfl)) ?_
          have hno : ordB l = false := Bool.eq_false_iff.2 fun q => by have q2 := opre_take (ordB_iff.1 q).2 (i + 1); rw [htk, opre_snoc hp] at q2; first | omega | (have := q2.2.2; simp_all)
          rw [hno]
          exact ⟨rfl, O33.old⟩
        · skip
          obtain ⟨vn, rfl⟩ : ∃ n : Nat, v = n := ⟨v.toNat, by omega⟩
          refine wl_val (v := .bool false) (fun ρ e => ex_cmp (u := (vn : Int)) (v := 128) (e _ _ rfl) (e _ _ rfl) (gtr0 (by omega))) rfl rfl ?_
          refine wl_val (v := .bool false) (fun ρ e => ex_pick0 (e _ _ rfl) (e _ _ rfl)) rfl rfl ?_
          refine wl_val (v := .bool false) (fun ρ e => ex_move (e _ _ rfl)) rfl rfl ?_
          refine wl_val (v := .int .i64 (vn : Int)) (fun ρ e => ex_move (e _ _ rfl)) rfl rfl ?_
          refine wl_val (v := .pointer (some ⟨g21, vn, none⟩)) (fun ρ e => ex_idxA (q := vn) (i := vn) an70 (e _ _ rfl) (e _ _ rfl) (by omega) (by omega)) rfl rfl ?_
          refine wl_val (v := .bool (decide ((vn : Int) ∈ (l.take i)))) (fun ρ e => ex_load1 ty4 (e _ _ rfl) (O33.cell 0 vn rfl (getBo (flagL_get (l.take i) (by omega))))) rfl rfl ?_
          refine wl_val (v := .bool (decide ((vn : Int) ∈ (l.take i)))) (fun ρ e => ex_pick0 (e _ _ rfl) (e _ _ rfl)) rfl rfl ?_
          refine wl_nil ?_
          refine xw_next K39 ?_
          refine cw_cond (b := (decide ((vn : Int) ∈ (l.take i)))) rfl (fun c44 => ?_) (fun c44 => ?_)
          · skip
            refine cw_seq (fun FK45 K45 => ?_)
            refine cw_region ?_
            refine wl_val (v := .bool false) (fun ρ e => ex_assign (e _ _ rfl)) rfl rfl ?_
            refine wl_nil ?_
            refine xw_next K45 ?_
            refine cw_ret ?_
            refine xw_past (by intro h; cases h) ?_
            refine xw_blockret ?_
            refine xw_past (by intro h; cases h) ?_
            refine xw_past (by intro h; cases h) ?_
            refine xw_blockret ?_
            refine xw_past (by intro h; cases h) ?_
            refine xw_ret (v := .bool false) (fun T hT => res1 rfl T _ (hT 2 _ rfl)) ?_
            have hno : ordB l = false := Bool.eq_false_iff.2 fun q => by have q2 := opre_take (ordB_iff.1 q).2 (i + 1); rw [htk, opre_snoc hp] at q2; first | omega | (have := q2.2.2; simp_all)
            rw [hno]
            exact ⟨rfl, O33.old⟩
          · skip
            refine cw_skip ?_
            refine xw_next K38 ?_
            refine cw_region ?_
            refine wl_val (v := .int .i64 (vn : Int)) (fun ρ e => ex_move (e _ _ rfl)) rfl rfl ?_
            refine wl_val (v := .pointer (some ⟨g21, vn, none⟩)) (fun ρ e => ex_idxA (q := vn) (i := vn) an70 (e _ _ rfl) (e _ _ rfl) (by omega) (by omega)) rfl rfl ?_
            obtain ⟨w46, r47, O48, hs49⟩ := own_put (o := vn) (n := 1) O33 ty4 (.bool true) [.bool true] (cs' := (boolCs (flagL 129 ((l.take i) ++ [(vn : Int)]))).toArray) rfl rfl rfl (by simp [boolCs, flagL_len] <;> omega) ((setBo _ vn true).trans (congrArg (fun z => (boolCs z).toArray) (flagL_set 129 vn (l.take i))))
            refine wl_none (fun ρ e => r47 ρ _ _ _ _ _ _ (e _ _ rfl) (e _ _ rfl)) rfl ?_
            refine wl_nil ?_
            refine xw_block ?_
            refine xw_next K36 ?_
            refine cw_region ?_
            refine wl_val (v := .int .i64 ((i + 1 : Nat) : Int)) (fun ρ e => ex_arith (k := .i64) (u := (i : Int)) (v := 1) (e _ _ rfl) (e _ _ rfl) (congrArg some ((congrArg _ (by omega)).trans (wrap_in (u := ((i + 1 : Nat) : Int)) (by omega) (by omega))))) rfl rfl ?_
            refine wl_val (v := .int .i64 ((i + 1 : Nat) : Int)) (fun ρ e => ex_move (e _ _ rfl)) rfl rfl ?_
            refine wl_nil ?_
            have O50 : Own Z0 W w46 [.blk g21 70 ((boolCs (flagL 129 (l.take (i + 1)))).toArray), .ro D (fun w => IntsD D w (.slice (some ⟨b, o, none⟩) l.length c) l)] := by rw [htk]; exact O48
            refine xw_round K32 (i + 1) (by show l.length - (i + 1) < l.length - i; omega) ⟨(by show i + 1 ≤ l.length; omega), (by show opreB (l.take (i + 1)) = true; rw [htk]; exact (opre_snoc hp).2 ⟨by omega, by omega, by simpa using c44⟩), O50⟩ ⟨rfl, rfl, rfl, rfl, rfl, trivial⟩
    · have hie : i = l.length := by omega
      refine cw_seq (fun FK51 K51 => ?_)
      refine cw_region ?_
      refine wl_val (v := .bool false) (fun ρ e => ex_cmp (u := (i : Int)) (v := ((l.length : Nat) : Int)) (e _ _ rfl) (e _ _ rfl) (lss0 (by omega))) rfl rfl ?_
      refine wl_nil ?_
      refine xw_next K51 ?_
      refine cw_seq (fun FK52 K52 => ?_)
      refine cw_false rfl ?_
      refine cw_exit ?_
      refine xw_past (by intro h; cases h) ?_
      refine xw_past (by intro h; cases h) ?_
      refine xw_here ?_
      refine xw_next K27 ?_
      refine cw_seq (fun FK53 K53 => ?_)
      refine cw_region ?_
      refine wl_val (v := .slice (some ⟨b, o, none⟩) l.length c) (fun ρ e => ex_move (e _ _ rfl)) rfl rfl ?_
      refine wl_val (v := .int .i64 ((l.length : Nat) : Int)) (fun ρ e => ex_len el36 (e _ _ rfl)) rfl rfl ?_
      refine wl_val (v := .bool true) (fun ρ e => ex_cmp (u := ((l.length : Nat) : Int)) (v := 0) (e _ _ rfl) (e _ _ rfl) (gtr1 (by omega))) rfl rfl ?_
      refine wl_val (v := .bool true) (fun ρ e => ex_assign (e _ _ rfl)) rfl rfl ?_
      refine wl_nil ?_
      refine xw_next K53 ?_
      refine cw_ret ?_
      refine xw_ret (v := .bool true) (fun T hT => res1 rfl T _ (hT 2 _ rfl)) ?_
      rw [hie, List.take_length] at hp
      have hr : ordB l = true := ordB_iff.2 ⟨by omega, hp⟩
      rw [hr]
      exact ⟨rfl, O33.old⟩
theorem part55 {W : World} {m : Nat} (h : 2 ≤ m) (h2 : m ≤ 1000000) : Calls Tryd.prog 55 #[.int .i64 (m : Int)] W fun e w' => e = .returned (.int .i64 ((gOf 1 m : Nat) : Int)) ∧ Below W.heap.size W w' := by
  have O0 : Own Z0 W W [] := Own.start W
  refine sx_enter (args := [.int .i64 (m : Int)]) Tryd.func55 rfl rfl (by simp) ?_
  refine cw_seq (fun FK1 K1 => ?_)
  refine cw_region ?_
  refine wl_val (v := .int .i64 0) (fun ρ e => ex_assign (e _ _ rfl)) rfl rfl ?_
  refine wl_nil ?_
  refine xw_next K1 ?_
  refine cw_seq (fun FK2 K2 => ?_)
  refine cw_region ?_
  refine wl_val (v := .int .i64 1) (fun ρ e => ex_assign (e _ _ rfl)) rfl rfl ?_
  refine wl_nil ?_
  refine xw_next K2 ?_
  refine cw_ret ?_
  refine xw_ret (v := .int .i64 1) (fun T hT => res1 rfl T _ (hT 2 _ rfl)) ?_
  exact ⟨rfl, O0.old⟩
theorem ex_sliceLo {ρ : Operand → Value} {d : Option Tmp} {x y : Operand} {t T : TypeId} {pos : String} {aft : Array Edge} {gd : Option (Nat × Bool)} {w : World} {e b o n c k q : Nat} (hT : ElB T e 1) (hx : ρ x = .slice (some ⟨b, o, none⟩) n c) (hy : ρ y = .int .i64 (k : Int)) (h1 : k < c) (h2 : k ≤ n) (hq : o + k = q) : (execOp ρ ⟨d, .slice T x (some y) none none, t, pos, aft, gd⟩).run Tryd.prog w = .ok (.value (.slice (some ⟨b, q, none⟩) (n - k) (c - k))) w := by
  subst hq
  have h3 : ¬ c = k := by omega
  simp [execOp, Instr.sliceAt, Instr.slice, run_underlying hT.elem, hx, hy, Instr.sliceBounds, Instr.sliceBound, asIntOf, h2, run_size hT.size, addr_plus, h3]
theorem part_ {L0 : List Int} {g : Nat → Nat} {D : Nat → Prop} {lc pc oc bl ol cl : Nat} {fl : FuncId} (hin : Enters Tryd.prog fl) (HL : ∀ (m : Nat) (W : World), 2 ≤ m → m ≤ 1000000 → Calls Tryd.prog fl #[.int .i64 (m : Int)] W fun e w' => e = .returned (.int .i64 ((g m : Nat) : Int)) ∧ Below W.heap.size W w') (hg : ∀ m, 2 ≤ m → 1 ≤ g m ∧ g m < m) :
    ∀ (k s m cc : Nat), s + m ≤ L0.length → 1 ≤ m → m ≤ k → m ≤ cc → ∀ (Z : Bool → Nat → Prop) (w0 W : World) (A : Option Addr) (n c : Nat) (l : List VN), Own Z w0 W [.blk lc 75 #[.func (.func fl) #[] #[]], .blk pc 69 #[.func (.func 76) #[] #[.pointer (some ⟨lc, 0, none⟩), .pointer (some ⟨pc, 0, none⟩), .pointer (some ⟨oc, 0, none⟩)]], .blk oc 23 #[.slice A n c], .row (.slice A n c) 38 3 n (ncells l), .ro D (fun w => IntsD D w (.slice (some ⟨bl, ol, none⟩) L0.length cl) L0)] → n + 2 * m ≤ 1000000 →
    Calls Tryd.prog 76 #[.slice (some ⟨bl, ol + s, none⟩) m cc, .pointer (some ⟨lc, 0, none⟩), .pointer (some ⟨pc, 0, none⟩), .pointer (some ⟨oc, 0, none⟩)] W fun e w' => ∃ A' c', e = .returned (.int .i64 ((n + Tr.size (mkT g k ((L0.drop s).take m)) - 1 : Nat) : Int)) ∧ Own Z w0 w' [.blk lc 75 #[.func (.func fl) #[] #[]], .blk pc 69 #[.func (.func 76) #[] #[.pointer (some ⟨lc, 0, none⟩), .pointer (some ⟨pc, 0, none⟩), .pointer (some ⟨oc, 0, none⟩)]], .blk oc 23 #[.slice A' (n + Tr.size (mkT g k ((L0.drop s).take m))) c'], .row (.slice A' (n + Tr.size (mkT g k ((L0.drop s).take m))) c') 38 3 (n + Tr.size (mkT g k ((L0.drop s).take m))) (ncells (l ++ post (mkT g k ((L0.drop s).take m)) n)), .ro D (fun w => IntsD D w (.slice (some ⟨bl, ol, none⟩) L0.length cl) L0)]
  | 0, s, m, cc, _, h1, h2, _ => absurd h1 (by omega)
  | k + 1, s, m, cc, hsm, hm1, hmk, hmc => fun Z w0 W A n c l O0 hlim => by
    have IH := part_ (L0 := L0) (lc := lc) (pc := pc) (oc := oc) (bl := bl) (ol := ol) (cl := cl) (D := D) hin HL hg k
    obtain ⟨v0, hv0⟩ : ∃ v, L0[s]? = some v := ⟨L0[s], List.getElem?_eq_getElem (by omega)⟩
    have hlen : ((L0.drop s).take m).length = m := by rw [List.length_take, List.length_drop]; omega
    by_cases h1 : m = 1
    · skip
      have hT : mkT g (k + 1) ((L0.drop s).take m) = .leaf v0 := mkT_one (by rw [hlen]; omega) (by rw [List.getElem?_take_of_lt (by omega), List.getElem?_drop, Nat.add_zero]; exact hv0)
      refine sx_enter (args := [.slice (some ⟨bl, ol + s, none⟩) m cc, .pointer (some ⟨lc, 0, none⟩), .pointer (some ⟨pc, 0, none⟩), .pointer (some ⟨oc, 0, none⟩)]) Tryd.func76 rfl rfl (by simp) ?_
      refine cw_seq (fun FK1 K1 => ?_)
      refine cw_region ?_
      refine wl_val (v := .int .i64 0) (fun ρ e => ex_assign (e _ _ rfl)) rfl rfl ?_
      refine wl_nil ?_
      refine xw_next K1 ?_
      refine cw_seq (fun FK2 K2 => ?_)
      refine cw_region ?_
      refine wl_val (v := .slice (some ⟨bl, ol + s, none⟩) m cc) (fun ρ e => ex_move (e _ _ rfl)) rfl rfl ?_
      refine wl_val (v := .pointer (some ⟨bl, ol + s, none⟩)) (fun ρ e => ex_idx (q := ol + s) (i := 0) el36 (e _ _ rfl) (e _ _ rfl) (by omega) (by omega)) rfl rfl ?_
      refine wl_val (v := .int .i64 v0) (fun ρ e => ex_load1 ty3 (e _ _ rfl) (IntsD.cellq ((O0.ro 4 rfl) : IntsD _ _ (.slice (some ⟨bl, ol, none⟩) L0.length cl) L0) hv0)) rfl rfl ?_
      refine wl_call (args := [.int .i64 v0]) in_50 rfl rfl rfl ?_
      refine (leafof_ v0 (W := W)).mono ?_
      rintro _ w3 ⟨rfl, hb4⟩
      have O5 : Own Z w0 w3 [.blk lc 75 #[.func (.func fl) #[] #[]], .blk pc 69 #[.func (.func 76) #[] #[.pointer (some ⟨lc, 0, none⟩), .pointer (some ⟨pc, 0, none⟩), .pointer (some ⟨oc, 0, none⟩)]], .blk oc 23 #[.slice A n c], .row (.slice A n c) 38 3 n (ncells l), .ro D (fun w => IntsD D w (.slice (some ⟨bl, ol, none⟩) L0.length cl) L0)] := O0.below hb4
      refine ⟨_, rfl, ?_⟩
      obtain ⟨g6, w7, r8, O9, hg10, hs11⟩ := own_alloc O5 38 ze38 rfl
      refine wl_val (v := .pointer (some ⟨g6, 0, none⟩)) (fun ρ e => r8 ρ _ _ _ _ _) rfl rfl ?_
      obtain ⟨w12, r13, O14, hs15⟩ := own_put (o := 0) (n := 3) O9 ty38 (.agg #[.int .i64 (-1), .int .i64 (-1), .int .i64 v0]) [.int .i64 (-1), .int .i64 (-1), .int .i64 v0] (cs' := #[.int .i64 (-1), .int .i64 (-1), .int .i64 v0]) rfl rfl rfl (Nat.le_of_ble_eq_true rfl) rfl
      refine wl_none (fun ρ e => r13 ρ _ _ _ _ _ _ (e _ _ rfl) (e _ _ rfl)) rfl ?_
      refine wl_nil ?_
      refine xw_next K2 ?_
      refine cw_seq (fun FK16 K16 => ?_)
      refine cw_seq (fun FK17 K17 => ?_)
      refine cw_region ?_
      refine wl_val (v := .slice (some ⟨bl, ol + s, none⟩) m cc) (fun ρ e => ex_move (e _ _ rfl)) rfl rfl ?_
      refine wl_val (v := .int .i64 (m : Int)) (fun ρ e => ex_len el36 (e _ _ rfl)) rfl rfl ?_
      refine wl_val (v := .bool false) (fun ρ e => ex_cmp (u := (m : Int)) (v := 1) (e _ _ rfl) (e _ _ rfl) (gtr0 (by omega))) rfl rfl ?_
      refine wl_nil ?_
      refine xw_next K17 ?_
      refine cw_false rfl ?_
      refine cw_skip ?_
      refine xw_next K16 ?_
      refine cw_seq (fun FK18 K18 => ?_)
      refine cw_region ?_
      refine wl_val (v := .slice A n c) (fun ρ e => ex_load1 ty23 (e _ _ rfl) (O14.cell 3 0 rfl rfl)) rfl rfl ?_
      refine wl_val (v := .agg #[.int .i64 (-1), .int .i64 (-1), .int .i64 v0]) (fun ρ e => ex_loadN (vs := [.int .i64 (-1), .int .i64 (-1), .int .i64 v0]) ty38 (e _ _ rfl) rfl (O14.cells 0 0 rfl rfl)) rfl rfl ?_
      obtain ⟨g19, w20, r21, O22, hg23, hs24⟩ := own_slice O14 el23 ze38 1 [(0, .agg #[.int .i64 (-1), .int .i64 (-1), .int .i64 v0])] (cs := #[.int .i64 (-1), .int .i64 (-1), .int .i64 v0]) (by decide) (by kernel_rfl)
      refine wl_val (v := .slice (some ⟨g19, 0, none⟩) 1 1) (fun ρ e => r21 ρ _ _ _ _ _ _ (e.parts rfl)) rfl rfl ?_
      obtain ⟨A25, c26, w27, r28, O29, hz30, hc31⟩ := own_app1 (O22.re [5, 0, 1, 2, 3, 4, 6] rfl : Own Z w0 w20 [.row (.slice A n c) 38 3 n (ncells l), .blk g19 38 #[.int .i64 (-1), .int .i64 (-1), .int .i64 v0], .blk g6 38 #[.int .i64 (-1), .int .i64 (-1), .int .i64 v0], .blk lc 75 #[.func (.func fl) #[] #[]], .blk pc 69 #[.func (.func 76) #[] #[.pointer (some ⟨lc, 0, none⟩), .pointer (some ⟨pc, 0, none⟩), .pointer (some ⟨oc, 0, none⟩)]], .blk oc 23 #[.slice A n c], .ro D (fun w => IntsD D w (.slice (some ⟨bl, ol, none⟩) L0.length cl) L0)]) ap23 ((O22.re [5, 0, 1, 2, 3, 4, 6] rfl : Own Z w0 w20 [.row (.slice A n c) 38 3 n (ncells l), .blk g19 38 #[.int .i64 (-1), .int .i64 (-1), .int .i64 v0], .blk g6 38 #[.int .i64 (-1), .int .i64 (-1), .int .i64 v0], .blk lc 75 #[.func (.func fl) #[] #[]], .blk pc 69 #[.func (.func 76) #[] #[.pointer (some ⟨lc, 0, none⟩), .pointer (some ⟨pc, 0, none⟩), .pointer (some ⟨oc, 0, none⟩)]], .blk oc 23 #[.slice A n c], .ro D (fun w => IntsD D w (.slice (some ⟨bl, ol, none⟩) L0.length cl) L0)]).blk 1 rfl) (cells := [.int .i64 (-1), .int .i64 (-1), .int .i64 v0]) rfl rfl (by omega) (by omega) (ys := (ncells (l ++ [(VN.mk (-1) (-1) v0)]))) (ncells_snoc l (VN.mk (-1) (-1) v0))
      refine wl_val (v := .slice A25 (n + 1) c26) (fun ρ e => r28 ρ _ _ _ _ _ _ _ (e _ _ rfl) (e _ _ rfl)) rfl rfl ?_
      obtain ⟨w32, r33, O34, hs35⟩ := own_put (o := 0) (n := 1) (O29.re [5, 0, 1, 2, 3, 4, 6] rfl : Own Z w0 w27 [.blk oc 23 #[.slice A n c], .row (.slice A25 (n + 1) c26) 38 3 (n + 1) (ncells (l ++ [(VN.mk (-1) (-1) v0)])), .blk g19 38 #[.int .i64 (-1), .int .i64 (-1), .int .i64 v0], .blk g6 38 #[.int .i64 (-1), .int .i64 (-1), .int .i64 v0], .blk lc 75 #[.func (.func fl) #[] #[]], .blk pc 69 #[.func (.func 76) #[] #[.pointer (some ⟨lc, 0, none⟩), .pointer (some ⟨pc, 0, none⟩), .pointer (some ⟨oc, 0, none⟩)]], .ro D (fun w => IntsD D w (.slice (some ⟨bl, ol, none⟩) L0.length cl) L0)]) ty23 (.slice A25 (n + 1) c26) [.slice A25 (n + 1) c26] (cs' := #[.slice A25 (n + 1) c26]) rfl rfl rfl (Nat.le_of_ble_eq_true rfl) rfl
      refine wl_none (fun ρ e => r33 ρ _ _ _ _ _ _ (e _ _ rfl) (e _ _ rfl)) rfl ?_
      refine wl_nil ?_
      refine xw_next K18 ?_
      refine cw_seq (fun FK36 K36 => ?_)
      refine cw_region ?_
      refine wl_val (v := .slice A25 (n + 1) c26) (fun ρ e => ex_load1 ty23 (e _ _ rfl) (O34.cell 0 0 rfl rfl)) rfl rfl ?_
      refine wl_val (v := .int .i64 ((n + 1 : Nat) : Int)) (fun ρ e => ex_len el23 (e _ _ rfl)) rfl rfl ?_
      refine wl_val (v := .int .i64 ((n + 1 - 1 : Nat) : Int)) (fun ρ e => ex_arith (k := .i64) (u := ((n + 1 : Nat) : Int)) (v := 1) (e _ _ rfl) (e _ _ rfl) (congrArg some ((congrArg _ (show _ = ((n + 1 - 1 : Nat) : Int) by omega)).trans (wrap_in (by omega) (by omega))))) rfl rfl ?_
      refine wl_val (v := .int .i64 ((n + 1 - 1 : Nat) : Int)) (fun ρ e => ex_assign (e _ _ rfl)) rfl rfl ?_
      refine wl_nil ?_
      refine xw_next K36 ?_
      refine cw_ret ?_
      refine xw_ret (v := .int .i64 ((n + 1 - 1 : Nat) : Int)) (fun T hT => res1 rfl T _ (hT 5 _ rfl)) ?_
      have hn : n + 1 = n + Tr.size (mkT g (k + 1) ((L0.drop s).take m)) := by rw [hT]; simp only [Tr.size] <;> omega
      have hl : (l ++ [(VN.mk (-1) (-1) v0)]) = l ++ post (mkT g (k + 1) ((L0.drop s).take m)) n := by rw [hT]; simp [post]
      have hO := (O34.re [4, 5, 0, 1, 6] rfl : Own Z w0 w32 [.blk lc 75 #[.func (.func fl) #[] #[]], .blk pc 69 #[.func (.func 76) #[] #[.pointer (some ⟨lc, 0, none⟩), .pointer (some ⟨pc, 0, none⟩), .pointer (some ⟨oc, 0, none⟩)]], .blk oc 23 #[.slice A25 (n + 1) c26], .row (.slice A25 (n + 1) c26) 38 3 (n + 1) (ncells (l ++ [(VN.mk (-1) (-1) v0)])), .ro D (fun w => IntsD D w (.slice (some ⟨bl, ol, none⟩) L0.length cl) L0)])
      rw [hn, hl] at hO
      exact ⟨A25, c26, congrArg (fun z : Nat => Ending.returned (.int .i64 (z : Int))) (show n + 1 - 1 = n + Tr.size (mkT g (k + 1) ((L0.drop s).take m)) - 1 by rw [hT]; simp only [Tr.size] <;> omega), hO⟩
    · skip
      have hm2 : 2 ≤ m := by omega
      have hgm := hg m hm2
      have hT : mkT g (k + 1) ((L0.drop s).take m) = .node (mkT g k ((L0.drop s).take (g m))) (mkT g k ((L0.drop (s + g m)).take (m - g m))) := by rw [mkT_more (by rw [hlen]; exact hm2), hlen, List.take_take, Nat.min_eq_left (by omega), List.drop_take, List.drop_drop]
      have hsz1 : Tr.size (mkT g k ((L0.drop s).take (g m))) = 2 * g m - 1 := by rw [(mkT_leaves hg k _ (by rw [List.length_take, List.length_drop]; omega) (by rw [List.length_take, List.length_drop]; omega)).2, List.length_take, List.length_drop, Nat.min_eq_left (by omega)]
      have hsz2 : Tr.size (mkT g k ((L0.drop (s + g m)).take (m - g m))) = 2 * (m - g m) - 1 := by rw [(mkT_leaves hg k _ (by rw [List.length_take, List.length_drop]; omega) (by rw [List.length_take, List.length_drop]; omega)).2, List.length_take, List.length_drop, Nat.min_eq_left (by omega)]
      refine sx_enter (args := [.slice (some ⟨bl, ol + s, none⟩) m cc, .pointer (some ⟨lc, 0, none⟩), .pointer (some ⟨pc, 0, none⟩), .pointer (some ⟨oc, 0, none⟩)]) Tryd.func76 rfl rfl (by simp) ?_
      refine cw_seq (fun FK1 K1 => ?_)
      refine cw_region ?_
      refine wl_val (v := .int .i64 0) (fun ρ e => ex_assign (e _ _ rfl)) rfl rfl ?_
      refine wl_nil ?_
      refine xw_next K1 ?_
      refine cw_seq (fun FK2 K2 => ?_)
      refine cw_region ?_
      refine wl_val (v := .slice (some ⟨bl, ol + s, none⟩) m cc) (fun ρ e => ex_move (e _ _ rfl)) rfl rfl ?_
      refine wl_val (v := .pointer (some ⟨bl, ol + s, none⟩)) (fun ρ e => ex_idx (q := ol + s) (i := 0) el36 (e _ _ rfl) (e _ _ rfl) (by omega) (by omega)) rfl rfl ?_
      refine wl_val (v := .int .i64 v0) (fun ρ e => ex_load1 ty3 (e _ _ rfl) (IntsD.cellq ((O0.ro 4 rfl) : IntsD _ _ (.slice (some ⟨bl, ol, none⟩) L0.length cl) L0) hv0)) rfl rfl ?_
      refine wl_call (args := [.int .i64 v0]) in_50 rfl rfl rfl ?_
      refine (leafof_ v0 (W := W)).mono ?_
      rintro _ w3 ⟨rfl, hb4⟩
      have O5 : Own Z w0 w3 [.blk lc 75 #[.func (.func fl) #[] #[]], .blk pc 69 #[.func (.func 76) #[] #[.pointer (some ⟨lc, 0, none⟩), .pointer (some ⟨pc, 0, none⟩), .pointer (some ⟨oc, 0, none⟩)]], .blk oc 23 #[.slice A n c], .row (.slice A n c) 38 3 n (ncells l), .ro D (fun w => IntsD D w (.slice (some ⟨bl, ol, none⟩) L0.length cl) L0)] := O0.below hb4
      refine ⟨_, rfl, ?_⟩
      obtain ⟨g6, w7, r8, O9, hg10, hs11⟩ := own_alloc O5 38 ze38 rfl
      refine wl_val (v := .pointer (some ⟨g6, 0, none⟩)) (fun ρ e => r8 ρ _ _ _ _ _) rfl rfl ?_
      obtain ⟨w12, r13, O14, hs15⟩ := own_put (o := 0) (n := 3) O9 ty38 (.agg #[.int .i64 (-1), .int .i64 (-1), .int .i64 v0]) [.int .i64 (-1), .int .i64 (-1), .int .i64 v0] (cs' := #[.int .i64 (-1), .int .i64 (-1), .int .i64 v0]) rfl rfl rfl (Nat.le_of_ble_eq_true rfl) rfl
      refine wl_none (fun ρ e => r13 ρ _ _ _ _ _ _ (e _ _ rfl) (e _ _ rfl)) rfl ?_
      refine wl_nil ?_
      refine xw_next K2 ?_
      refine cw_seq (fun FK16 K16 => ?_)
      refine cw_seq (fun FK17 K17 => ?_)
      refine cw_region ?_
      refine wl_val (v := .slice (some ⟨bl, ol + s, none⟩) m cc) (fun ρ e => ex_move (e _ _ rfl)) rfl rfl ?_
      refine wl_val (v := .int .i64 (m : Int)) (fun ρ e => ex_len el36 (e _ _ rfl)) rfl rfl ?_
      refine wl_val (v := .bool true) (fun ρ e => ex_cmp (u := (m : Int)) (v := 1) (e _ _ rfl) (e _ _ rfl) (gtr1 (by omega))) rfl rfl ?_
      refine wl_nil ?_
      refine xw_next K17 ?_
      refine cw_true rfl ?_
      refine cw_seq (fun FK18 K18 => ?_)
      refine cw_region ?_
      refine wl_val (v := .func (.func fl) #[] #[]) (fun ρ e => ex_load1 ty75 (e _ _ rfl) (O14.cell 1 0 rfl rfl)) rfl rfl ?_
      refine wl_val (v := .slice (some ⟨bl, ol + s, none⟩) m cc) (fun ρ e => ex_move (e _ _ rfl)) rfl rfl ?_
      refine wl_val (v := .int .i64 (m : Int)) (fun ρ e => ex_len el36 (e _ _ rfl)) rfl rfl ?_
      refine wl_callv (args := [.int .i64 (m : Int)]) (all := [.int .i64 (m : Int)]) hin rfl rfl rfl rfl rfl ?_
      refine (HL m _ hm2 (by omega)).mono ?_
      rintro _ w19 ⟨rfl, hb20⟩
      have O21 : Own Z w0 w19 [.blk g6 38 #[.int .i64 (-1), .int .i64 (-1), .int .i64 v0], .blk lc 75 #[.func (.func fl) #[] #[]], .blk pc 69 #[.func (.func 76) #[] #[.pointer (some ⟨lc, 0, none⟩), .pointer (some ⟨pc, 0, none⟩), .pointer (some ⟨oc, 0, none⟩)]], .blk oc 23 #[.slice A n c], .row (.slice A n c) 38 3 n (ncells l), .ro D (fun w => IntsD D w (.slice (some ⟨bl, ol, none⟩) L0.length cl) L0)] := O14.below hb20
      refine ⟨_, rfl, ?_⟩
      refine wl_val (v := .int .i64 ((g m : Nat) : Int)) (fun ρ e => ex_assign (e _ _ rfl)) rfl rfl ?_
      refine wl_nil ?_
      refine xw_next K18 ?_
      refine cw_drawn (fun X => Own Z w0 X [.blk g6 38 #[.int .i64 (-1), .int .i64 (-1), .int .i64 v0], .blk lc 75 #[.func (.func fl) #[] #[]], .blk pc 69 #[.func (.func 76) #[] #[.pointer (some ⟨lc, 0, none⟩), .pointer (some ⟨pc, 0, none⟩), .pointer (some ⟨oc, 0, none⟩)]], .ro D (fun w => IntsD D w (.slice (some ⟨bl, ol, none⟩) L0.length cl) L0)]) 11 [(0, 0), (1, 1), (2, 1), (3, 1), (5, 0), (6, 1), (7, 1), (8, 1), (4, 2), (9, 2), (10, 1), (11, 3)] (by kernel_rfl) (by kernel_rfl) (PQ.then_ PQ.body) ((O21.re [0, 1, 2, 5] rfl : Own Z w0 w19 [.blk g6 38 #[.int .i64 (-1), .int .i64 (-1), .int .i64 v0], .blk lc 75 #[.func (.func fl) #[] #[]], .blk pc 69 #[.func (.func 76) #[] #[.pointer (some ⟨lc, 0, none⟩), .pointer (some ⟨pc, 0, none⟩), .pointer (some ⟨oc, 0, none⟩)]], .ro D (fun w => IntsD D w (.slice (some ⟨bl, ol, none⟩) L0.length cl) L0)])).drew ?_
      have O22 : Own Z w0 w19.drew [.blk g6 38 #[.int .i64 (-1), .int .i64 (-1), .int .i64 v0], .blk lc 75 #[.func (.func fl) #[] #[]], .blk pc 69 #[.func (.func 76) #[] #[.pointer (some ⟨lc, 0, none⟩), .pointer (some ⟨pc, 0, none⟩), .pointer (some ⟨oc, 0, none⟩)]], .blk oc 23 #[.slice A n c], .row (.slice A n c) 38 3 n (ncells l), .ro D (fun w => IntsD D w (.slice (some ⟨bl, ol, none⟩) L0.length cl) L0)] := O21.drew
      refine wt0 (v := .func (.func 76) #[] #[.pointer (some ⟨lc, 0, none⟩), .pointer (some ⟨pc, 0, none⟩), .pointer (some ⟨oc, 0, none⟩)]) rfl (fun ρ e W hW => ex_load1 ty69 (e _ _ rfl) (hW.cell 2 0 rfl rfl)) rfl rfl ?_
      refine wt1 (v := .slice (some ⟨bl, ol + s, none⟩) m cc) rfl (fun ρ e W => ex_move (e _ _ rfl)) rfl rfl ?_
      refine wt1 (v := .int .i64 ((g m : Nat) : Int)) rfl (fun ρ e W => ex_move (e _ _ rfl)) rfl rfl ?_
      refine wt1 (v := .slice (some ⟨bl, ol + s, none⟩) (g m) cc) rfl (fun ρ e W => ex_sliceHi (h := g m) el36 (e _ _ rfl) (e _ _ rfl) (by omega)) rfl rfl ?_
      refine wt0 (v := .func (.func 76) #[] #[.pointer (some ⟨lc, 0, none⟩), .pointer (some ⟨pc, 0, none⟩), .pointer (some ⟨oc, 0, none⟩)]) rfl (fun ρ e W hW => ex_load1 ty69 (e _ _ rfl) (hW.cell 2 0 rfl rfl)) rfl rfl ?_
      refine wt1 (v := .slice (some ⟨bl, ol + s, none⟩) m cc) rfl (fun ρ e W => ex_move (e _ _ rfl)) rfl rfl ?_
      refine wt1 (v := .int .i64 ((g m : Nat) : Int)) rfl (fun ρ e W => ex_move (e _ _ rfl)) rfl rfl ?_
      refine wt1 (v := .slice (some ⟨bl, ol + (s + g m), none⟩) (m - g m) (cc - g m)) rfl (fun ρ e W => ex_sliceLo (k := g m) (q := ol + (s + g m)) el36 (e _ _ rfl) (e _ _ rfl) (by omega) (by omega) (by omega)) rfl rfl ?_
      refine wt2_callv (args := [.slice (some ⟨bl, ol + s, none⟩) (g m) cc]) (all := [.slice (some ⟨bl, ol + s, none⟩) (g m) cc, .pointer (some ⟨lc, 0, none⟩), .pointer (some ⟨pc, 0, none⟩), .pointer (some ⟨oc, 0, none⟩)]) rfl in_76 rfl rfl rfl rfl rfl ?_
      have O27h := Own.hand (A := [.blk lc 75 #[.func (.func fl) #[] #[]], .blk pc 69 #[.func (.func 76) #[] #[.pointer (some ⟨lc, 0, none⟩), .pointer (some ⟨pc, 0, none⟩), .pointer (some ⟨oc, 0, none⟩)]], .blk oc 23 #[.slice A n c], .row (.slice A n c) 38 3 n (ncells l), .ro D (fun w => IntsD D w (.slice (some ⟨bl, ol, none⟩) L0.length cl) L0)]) (R := [.blk g6 38 #[.int .i64 (-1), .int .i64 (-1), .int .i64 v0]]) (O22.re [1, 2, 3, 4, 5, 0] rfl : Own Z w0 w19.drew [.blk lc 75 #[.func (.func fl) #[] #[]], .blk pc 69 #[.func (.func 76) #[] #[.pointer (some ⟨lc, 0, none⟩), .pointer (some ⟨pc, 0, none⟩), .pointer (some ⟨oc, 0, none⟩)]], .blk oc 23 #[.slice A n c], .row (.slice A n c) 38 3 n (ncells l), .ro D (fun w => IntsD D w (.slice (some ⟨bl, ol, none⟩) L0.length cl) L0), .blk g6 38 #[.int .i64 (-1), .int .i64 (-1), .int .i64 v0]])
      refine ((IH s (g m) cc (by omega) (by omega) (by omega) (by omega) _ _ _ _ _ _ l O27h (by omega))).mono ?_
      rintro _ w25 ⟨A23, c24, rfl, h26⟩
      have O27 : Own Z w0 w25 [.blk lc 75 #[.func (.func fl) #[] #[]], .blk pc 69 #[.func (.func 76) #[] #[.pointer (some ⟨lc, 0, none⟩), .pointer (some ⟨pc, 0, none⟩), .pointer (some ⟨oc, 0, none⟩)]], .blk oc 23 #[.slice A23 (n + Tr.size (mkT g k ((L0.drop s).take (g m)))) c24], .row (.slice A23 (n + Tr.size (mkT g k ((L0.drop s).take (g m)))) c24) 38 3 (n + Tr.size (mkT g k ((L0.drop s).take (g m)))) (ncells (l ++ post (mkT g k ((L0.drop s).take (g m))) n)), .ro D (fun w => IntsD D w (.slice (some ⟨bl, ol, none⟩) L0.length cl) L0), .blk g6 38 #[.int .i64 (-1), .int .i64 (-1), .int .i64 v0]] := Own.frame (A := [.blk lc 75 #[.func (.func fl) #[] #[]], .blk pc 69 #[.func (.func 76) #[] #[.pointer (some ⟨lc, 0, none⟩), .pointer (some ⟨pc, 0, none⟩), .pointer (some ⟨oc, 0, none⟩)]], .blk oc 23 #[.slice A n c], .row (.slice A n c) 38 3 n (ncells l), .ro D (fun w => IntsD D w (.slice (some ⟨bl, ol, none⟩) L0.length cl) L0)]) (R := [.blk g6 38 #[.int .i64 (-1), .int .i64 (-1), .int .i64 v0]]) (O22.re [1, 2, 3, 4, 5, 0] rfl : Own Z w0 w19.drew [.blk lc 75 #[.func (.func fl) #[] #[]], .blk pc 69 #[.func (.func 76) #[] #[.pointer (some ⟨lc, 0, none⟩), .pointer (some ⟨pc, 0, none⟩), .pointer (some ⟨oc, 0, none⟩)]], .blk oc 23 #[.slice A n c], .row (.slice A n c) 38 3 n (ncells l), .ro D (fun w => IntsD D w (.slice (some ⟨bl, ol, none⟩) L0.length cl) L0), .blk g6 38 #[.int .i64 (-1), .int .i64 (-1), .int .i64 v0]]) h26
      refine ⟨_, rfl, (O27.re [5, 0, 1, 4] rfl : Own Z w0 w25 [.blk g6 38 #[.int .i64 (-1), .int .i64 (-1), .int .i64 v0], .blk lc 75 #[.func (.func fl) #[] #[]], .blk pc 69 #[.func (.func 76) #[] #[.pointer (some ⟨lc, 0, none⟩), .pointer (some ⟨pc, 0, none⟩), .pointer (some ⟨oc, 0, none⟩)]], .ro D (fun w => IntsD D w (.slice (some ⟨bl, ol, none⟩) L0.length cl) L0)]), ?_⟩
      refine wt2_callv (args := [.slice (some ⟨bl, ol + (s + g m), none⟩) (m - g m) (cc - g m)]) (all := [.slice (some ⟨bl, ol + (s + g m), none⟩) (m - g m) (cc - g m), .pointer (some ⟨lc, 0, none⟩), .pointer (some ⟨pc, 0, none⟩), .pointer (some ⟨oc, 0, none⟩)]) rfl in_76 rfl rfl rfl rfl rfl ?_
      have O32h := Own.hand (A := [.blk lc 75 #[.func (.func fl) #[] #[]], .blk pc 69 #[.func (.func 76) #[] #[.pointer (some ⟨lc, 0, none⟩), .pointer (some ⟨pc, 0, none⟩), .pointer (some ⟨oc, 0, none⟩)]], .blk oc 23 #[.slice A23 (n + Tr.size (mkT g k ((L0.drop s).take (g m)))) c24], .row (.slice A23 (n + Tr.size (mkT g k ((L0.drop s).take (g m)))) c24) 38 3 (n + Tr.size (mkT g k ((L0.drop s).take (g m)))) (ncells (l ++ post (mkT g k ((L0.drop s).take (g m))) n)), .ro D (fun w => IntsD D w (.slice (some ⟨bl, ol, none⟩) L0.length cl) L0)]) (R := [.blk g6 38 #[.int .i64 (-1), .int .i64 (-1), .int .i64 v0]]) O27
      refine ((IH (s + g m) (m - g m) (cc - g m) (by omega) (by omega) (by omega) (by omega) _ _ _ _ _ _ (l ++ post (mkT g k ((L0.drop s).take (g m))) n) O32h (by omega))).mono ?_
      rintro _ w30 ⟨A28, c29, rfl, h31⟩
      have O32 : Own Z w0 w30 [.blk lc 75 #[.func (.func fl) #[] #[]], .blk pc 69 #[.func (.func 76) #[] #[.pointer (some ⟨lc, 0, none⟩), .pointer (some ⟨pc, 0, none⟩), .pointer (some ⟨oc, 0, none⟩)]], .blk oc 23 #[.slice A28 ((n + Tr.size (mkT g k ((L0.drop s).take (g m)))) + Tr.size (mkT g k ((L0.drop (s + g m)).take (m - g m)))) c29], .row (.slice A28 ((n + Tr.size (mkT g k ((L0.drop s).take (g m)))) + Tr.size (mkT g k ((L0.drop (s + g m)).take (m - g m)))) c29) 38 3 ((n + Tr.size (mkT g k ((L0.drop s).take (g m)))) + Tr.size (mkT g k ((L0.drop (s + g m)).take (m - g m)))) (ncells ((l ++ post (mkT g k ((L0.drop s).take (g m))) n) ++ post (mkT g k ((L0.drop (s + g m)).take (m - g m))) (n + Tr.size (mkT g k ((L0.drop s).take (g m)))))), .ro D (fun w => IntsD D w (.slice (some ⟨bl, ol, none⟩) L0.length cl) L0), .blk g6 38 #[.int .i64 (-1), .int .i64 (-1), .int .i64 v0]] := Own.frame (A := [.blk lc 75 #[.func (.func fl) #[] #[]], .blk pc 69 #[.func (.func 76) #[] #[.pointer (some ⟨lc, 0, none⟩), .pointer (some ⟨pc, 0, none⟩), .pointer (some ⟨oc, 0, none⟩)]], .blk oc 23 #[.slice A23 (n + Tr.size (mkT g k ((L0.drop s).take (g m)))) c24], .row (.slice A23 (n + Tr.size (mkT g k ((L0.drop s).take (g m)))) c24) 38 3 (n + Tr.size (mkT g k ((L0.drop s).take (g m)))) (ncells (l ++ post (mkT g k ((L0.drop s).take (g m))) n)), .ro D (fun w => IntsD D w (.slice (some ⟨bl, ol, none⟩) L0.length cl) L0)]) (R := [.blk g6 38 #[.int .i64 (-1), .int .i64 (-1), .int .i64 v0]]) O27 h31
      refine ⟨_, rfl, (O32.re [5, 0, 1, 4] rfl : Own Z w0 w30 [.blk g6 38 #[.int .i64 (-1), .int .i64 (-1), .int .i64 v0], .blk lc 75 #[.func (.func fl) #[] #[]], .blk pc 69 #[.func (.func 76) #[] #[.pointer (some ⟨lc, 0, none⟩), .pointer (some ⟨pc, 0, none⟩), .pointer (some ⟨oc, 0, none⟩)]], .ro D (fun w => IntsD D w (.slice (some ⟨bl, ol, none⟩) L0.length cl) L0)]), ?_⟩
      refine wt1 (v := .agg #[.int .i64 ((n + Tr.size (mkT g k ((L0.drop s).take (g m))) - 1 : Nat) : Int), .int .i64 (((n + Tr.size (mkT g k ((L0.drop s).take (g m)))) + Tr.size (mkT g k ((L0.drop (s + g m)).take (m - g m))) - 1 : Nat) : Int), .int .i64 0]) rfl (fun ρ e W => ex_build (cells := #[.int .i64 ((n + Tr.size (mkT g k ((L0.drop s).take (g m))) - 1 : Nat) : Int), .int .i64 (((n + Tr.size (mkT g k ((L0.drop s).take (g m)))) + Tr.size (mkT g k ((L0.drop (s + g m)).take (m - g m))) - 1 : Nat) : Int), .int .i64 0]) st38 (e.parts rfl) rfl) rfl rfl ?_
      obtain ⟨w33, r34, O35, hs36⟩ := own_put (o := 0) (n := 3) (O32.re [5, 0, 1, 2, 3, 4] rfl : Own Z w0 w30 [.blk g6 38 #[.int .i64 (-1), .int .i64 (-1), .int .i64 v0], .blk lc 75 #[.func (.func fl) #[] #[]], .blk pc 69 #[.func (.func 76) #[] #[.pointer (some ⟨lc, 0, none⟩), .pointer (some ⟨pc, 0, none⟩), .pointer (some ⟨oc, 0, none⟩)]], .blk oc 23 #[.slice A28 ((n + Tr.size (mkT g k ((L0.drop s).take (g m)))) + Tr.size (mkT g k ((L0.drop (s + g m)).take (m - g m)))) c29], .row (.slice A28 ((n + Tr.size (mkT g k ((L0.drop s).take (g m)))) + Tr.size (mkT g k ((L0.drop (s + g m)).take (m - g m)))) c29) 38 3 ((n + Tr.size (mkT g k ((L0.drop s).take (g m)))) + Tr.size (mkT g k ((L0.drop (s + g m)).take (m - g m)))) (ncells ((l ++ post (mkT g k ((L0.drop s).take (g m))) n) ++ post (mkT g k ((L0.drop (s + g m)).take (m - g m))) (n + Tr.size (mkT g k ((L0.drop s).take (g m)))))), .ro D (fun w => IntsD D w (.slice (some ⟨bl, ol, none⟩) L0.length cl) L0)]) ty38 (.agg #[.int .i64 ((n + Tr.size (mkT g k ((L0.drop s).take (g m))) - 1 : Nat) : Int), .int .i64 (((n + Tr.size (mkT g k ((L0.drop s).take (g m)))) + Tr.size (mkT g k ((L0.drop (s + g m)).take (m - g m))) - 1 : Nat) : Int), .int .i64 0]) [.int .i64 ((n + Tr.size (mkT g k ((L0.drop s).take (g m))) - 1 : Nat) : Int), .int .i64 (((n + Tr.size (mkT g k ((L0.drop s).take (g m)))) + Tr.size (mkT g k ((L0.drop (s + g m)).take (m - g m))) - 1 : Nat) : Int), .int .i64 0] (cs' := #[.int .i64 ((n + Tr.size (mkT g k ((L0.drop s).take (g m))) - 1 : Nat) : Int), .int .i64 (((n + Tr.size (mkT g k ((L0.drop s).take (g m)))) + Tr.size (mkT g k ((L0.drop (s + g m)).take (m - g m))) - 1 : Nat) : Int), .int .i64 0]) rfl rfl rfl (Nat.le_of_ble_eq_true rfl) rfl
      refine wt3_none rfl (fun ρ e => r34 ρ _ _ _ _ _ _ (e _ _ rfl) (e _ _ rfl)) rfl ?_
      refine wt_nil ?_
      refine xw_next K16 ?_
      refine cw_seq (fun FK37 K37 => ?_)
      refine cw_region ?_
      refine wl_val (v := .slice A28 ((n + Tr.size (mkT g k ((L0.drop s).take (g m)))) + Tr.size (mkT g k ((L0.drop (s + g m)).take (m - g m)))) c29) (fun ρ e => ex_load1 ty23 (e _ _ rfl) (O35.cell 3 0 rfl rfl)) rfl rfl ?_
      refine wl_val (v := .agg #[.int .i64 ((n + Tr.size (mkT g k ((L0.drop s).take (g m))) - 1 : Nat) : Int), .int .i64 (((n + Tr.size (mkT g k ((L0.drop s).take (g m)))) + Tr.size (mkT g k ((L0.drop (s + g m)).take (m - g m))) - 1 : Nat) : Int), .int .i64 0]) (fun ρ e => ex_loadN (vs := [.int .i64 ((n + Tr.size (mkT g k ((L0.drop s).take (g m))) - 1 : Nat) : Int), .int .i64 (((n + Tr.size (mkT g k ((L0.drop s).take (g m)))) + Tr.size (mkT g k ((L0.drop (s + g m)).take (m - g m))) - 1 : Nat) : Int), .int .i64 0]) ty38 (e _ _ rfl) rfl (O35.cells 0 0 rfl rfl)) rfl rfl ?_
      obtain ⟨g38, w39, r40, O41, hg42, hs43⟩ := own_slice O35 el23 ze38 1 [(0, .agg #[.int .i64 ((n + Tr.size (mkT g k ((L0.drop s).take (g m))) - 1 : Nat) : Int), .int .i64 (((n + Tr.size (mkT g k ((L0.drop s).take (g m)))) + Tr.size (mkT g k ((L0.drop (s + g m)).take (m - g m))) - 1 : Nat) : Int), .int .i64 0])] (cs := #[.int .i64 ((n + Tr.size (mkT g k ((L0.drop s).take (g m))) - 1 : Nat) : Int), .int .i64 (((n + Tr.size (mkT g k ((L0.drop s).take (g m)))) + Tr.size (mkT g k ((L0.drop (s + g m)).take (m - g m))) - 1 : Nat) : Int), .int .i64 0]) (by decide) (by kernel_rfl)
      refine wl_val (v := .slice (some ⟨g38, 0, none⟩) 1 1) (fun ρ e => r40 ρ _ _ _ _ _ _ (e.parts rfl)) rfl rfl ?_
      obtain ⟨A44, c45, w46, r47, O48, hz49, hc50⟩ := own_app1 (O41.re [5, 0, 1, 2, 3, 4, 6] rfl : Own Z w0 w39 [.row (.slice A28 ((n + Tr.size (mkT g k ((L0.drop s).take (g m)))) + Tr.size (mkT g k ((L0.drop (s + g m)).take (m - g m)))) c29) 38 3 ((n + Tr.size (mkT g k ((L0.drop s).take (g m)))) + Tr.size (mkT g k ((L0.drop (s + g m)).take (m - g m)))) (ncells ((l ++ post (mkT g k ((L0.drop s).take (g m))) n) ++ post (mkT g k ((L0.drop (s + g m)).take (m - g m))) (n + Tr.size (mkT g k ((L0.drop s).take (g m)))))), .blk g38 38 #[.int .i64 ((n + Tr.size (mkT g k ((L0.drop s).take (g m))) - 1 : Nat) : Int), .int .i64 (((n + Tr.size (mkT g k ((L0.drop s).take (g m)))) + Tr.size (mkT g k ((L0.drop (s + g m)).take (m - g m))) - 1 : Nat) : Int), .int .i64 0], .blk g6 38 #[.int .i64 ((n + Tr.size (mkT g k ((L0.drop s).take (g m))) - 1 : Nat) : Int), .int .i64 (((n + Tr.size (mkT g k ((L0.drop s).take (g m)))) + Tr.size (mkT g k ((L0.drop (s + g m)).take (m - g m))) - 1 : Nat) : Int), .int .i64 0], .blk lc 75 #[.func (.func fl) #[] #[]], .blk pc 69 #[.func (.func 76) #[] #[.pointer (some ⟨lc, 0, none⟩), .pointer (some ⟨pc, 0, none⟩), .pointer (some ⟨oc, 0, none⟩)]], .blk oc 23 #[.slice A28 ((n + Tr.size (mkT g k ((L0.drop s).take (g m)))) + Tr.size (mkT g k ((L0.drop (s + g m)).take (m - g m)))) c29], .ro D (fun w => IntsD D w (.slice (some ⟨bl, ol, none⟩) L0.length cl) L0)]) ap23 ((O41.re [5, 0, 1, 2, 3, 4, 6] rfl : Own Z w0 w39 [.row (.slice A28 ((n + Tr.size (mkT g k ((L0.drop s).take (g m)))) + Tr.size (mkT g k ((L0.drop (s + g m)).take (m - g m)))) c29) 38 3 ((n + Tr.size (mkT g k ((L0.drop s).take (g m)))) + Tr.size (mkT g k ((L0.drop (s + g m)).take (m - g m)))) (ncells ((l ++ post (mkT g k ((L0.drop s).take (g m))) n) ++ post (mkT g k ((L0.drop (s + g m)).take (m - g m))) (n + Tr.size (mkT g k ((L0.drop s).take (g m)))))), .blk g38 38 #[.int .i64 ((n + Tr.size (mkT g k ((L0.drop s).take (g m))) - 1 : Nat) : Int), .int .i64 (((n + Tr.size (mkT g k ((L0.drop s).take (g m)))) + Tr.size (mkT g k ((L0.drop (s + g m)).take (m - g m))) - 1 : Nat) : Int), .int .i64 0], .blk g6 38 #[.int .i64 ((n + Tr.size (mkT g k ((L0.drop s).take (g m))) - 1 : Nat) : Int), .int .i64 (((n + Tr.size (mkT g k ((L0.drop s).take (g m)))) + Tr.size (mkT g k ((L0.drop (s + g m)).take (m - g m))) - 1 : Nat) : Int), .int .i64 0], .blk lc 75 #[.func (.func fl) #[] #[]], .blk pc 69 #[.func (.func 76) #[] #[.pointer (some ⟨lc, 0, none⟩), .pointer (some ⟨pc, 0, none⟩), .pointer (some ⟨oc, 0, none⟩)]], .blk oc 23 #[.slice A28 ((n + Tr.size (mkT g k ((L0.drop s).take (g m)))) + Tr.size (mkT g k ((L0.drop (s + g m)).take (m - g m)))) c29], .ro D (fun w => IntsD D w (.slice (some ⟨bl, ol, none⟩) L0.length cl) L0)]).blk 1 rfl) (cells := [.int .i64 ((n + Tr.size (mkT g k ((L0.drop s).take (g m))) - 1 : Nat) : Int), .int .i64 (((n + Tr.size (mkT g k ((L0.drop s).take (g m)))) + Tr.size (mkT g k ((L0.drop (s + g m)).take (m - g m))) - 1 : Nat) : Int), .int .i64 0]) rfl rfl (by omega) (by omega) (ys := (ncells (((l ++ post (mkT g k ((L0.drop s).take (g m))) n) ++ post (mkT g k ((L0.drop (s + g m)).take (m - g m))) (n + Tr.size (mkT g k ((L0.drop s).take (g m))))) ++ [(VN.mk ((n + Tr.size (mkT g k ((L0.drop s).take (g m))) - 1 : Nat) : Int) (((n + Tr.size (mkT g k ((L0.drop s).take (g m)))) + Tr.size (mkT g k ((L0.drop (s + g m)).take (m - g m))) - 1 : Nat) : Int) 0)]))) (ncells_snoc ((l ++ post (mkT g k ((L0.drop s).take (g m))) n) ++ post (mkT g k ((L0.drop (s + g m)).take (m - g m))) (n + Tr.size (mkT g k ((L0.drop s).take (g m))))) (VN.mk ((n + Tr.size (mkT g k ((L0.drop s).take (g m))) - 1 : Nat) : Int) (((n + Tr.size (mkT g k ((L0.drop s).take (g m)))) + Tr.size (mkT g k ((L0.drop (s + g m)).take (m - g m))) - 1 : Nat) : Int) 0))
      refine wl_val (v := .slice A44 (((n + Tr.size (mkT g k ((L0.drop s).take (g m)))) + Tr.size (mkT g k ((L0.drop (s + g m)).take (m - g m)))) + 1) c45) (fun ρ e => r47 ρ _ _ _ _ _ _ _ (e _ _ rfl) (e _ _ rfl)) rfl rfl ?_
      obtain ⟨w51, r52, O53, hs54⟩ := own_put (o := 0) (n := 1) (O48.re [5, 0, 1, 2, 3, 4, 6] rfl : Own Z w0 w46 [.blk oc 23 #[.slice A28 ((n + Tr.size (mkT g k ((L0.drop s).take (g m)))) + Tr.size (mkT g k ((L0.drop (s + g m)).take (m - g m)))) c29], .row (.slice A44 (((n + Tr.size (mkT g k ((L0.drop s).take (g m)))) + Tr.size (mkT g k ((L0.drop (s + g m)).take (m - g m)))) + 1) c45) 38 3 (((n + Tr.size (mkT g k ((L0.drop s).take (g m)))) + Tr.size (mkT g k ((L0.drop (s + g m)).take (m - g m)))) + 1) (ncells (((l ++ post (mkT g k ((L0.drop s).take (g m))) n) ++ post (mkT g k ((L0.drop (s + g m)).take (m - g m))) (n + Tr.size (mkT g k ((L0.drop s).take (g m))))) ++ [(VN.mk ((n + Tr.size (mkT g k ((L0.drop s).take (g m))) - 1 : Nat) : Int) (((n + Tr.size (mkT g k ((L0.drop s).take (g m)))) + Tr.size (mkT g k ((L0.drop (s + g m)).take (m - g m))) - 1 : Nat) : Int) 0)])), .blk g38 38 #[.int .i64 ((n + Tr.size (mkT g k ((L0.drop s).take (g m))) - 1 : Nat) : Int), .int .i64 (((n + Tr.size (mkT g k ((L0.drop s).take (g m)))) + Tr.size (mkT g k ((L0.drop (s + g m)).take (m - g m))) - 1 : Nat) : Int), .int .i64 0], .blk g6 38 #[.int .i64 ((n + Tr.size (mkT g k ((L0.drop s).take (g m))) - 1 : Nat) : Int), .int .i64 (((n + Tr.size (mkT g k ((L0.drop s).take (g m)))) + Tr.size (mkT g k ((L0.drop (s + g m)).take (m - g m))) - 1 : Nat) : Int), .int .i64 0], .blk lc 75 #[.func (.func fl) #[] #[]], .blk pc 69 #[.func (.func 76) #[] #[.pointer (some ⟨lc, 0, none⟩), .pointer (some ⟨pc, 0, none⟩), .pointer (some ⟨oc, 0, none⟩)]], .ro D (fun w => IntsD D w (.slice (some ⟨bl, ol, none⟩) L0.length cl) L0)]) ty23 (.slice A44 (((n + Tr.size (mkT g k ((L0.drop s).take (g m)))) + Tr.size (mkT g k ((L0.drop (s + g m)).take (m - g m)))) + 1) c45) [.slice A44 (((n + Tr.size (mkT g k ((L0.drop s).take (g m)))) + Tr.size (mkT g k ((L0.drop (s + g m)).take (m - g m)))) + 1) c45] (cs' := #[.slice A44 (((n + Tr.size (mkT g k ((L0.drop s).take (g m)))) + Tr.size (mkT g k ((L0.drop (s + g m)).take (m - g m)))) + 1) c45]) rfl rfl rfl (Nat.le_of_ble_eq_true rfl) rfl
      refine wl_none (fun ρ e => r52 ρ _ _ _ _ _ _ (e _ _ rfl) (e _ _ rfl)) rfl ?_
      refine wl_nil ?_
      refine xw_next K37 ?_
      refine cw_seq (fun FK55 K55 => ?_)
      refine cw_region ?_
      refine wl_val (v := .slice A44 (((n + Tr.size (mkT g k ((L0.drop s).take (g m)))) + Tr.size (mkT g k ((L0.drop (s + g m)).take (m - g m)))) + 1) c45) (fun ρ e => ex_load1 ty23 (e _ _ rfl) (O53.cell 0 0 rfl rfl)) rfl rfl ?_
      refine wl_val (v := .int .i64 ((((n + Tr.size (mkT g k ((L0.drop s).take (g m)))) + Tr.size (mkT g k ((L0.drop (s + g m)).take (m - g m)))) + 1 : Nat) : Int)) (fun ρ e => ex_len el23 (e _ _ rfl)) rfl rfl ?_
      refine wl_val (v := .int .i64 ((((n + Tr.size (mkT g k ((L0.drop s).take (g m)))) + Tr.size (mkT g k ((L0.drop (s + g m)).take (m - g m)))) + 1 - 1 : Nat) : Int)) (fun ρ e => ex_arith (k := .i64) (u := ((((n + Tr.size (mkT g k ((L0.drop s).take (g m)))) + Tr.size (mkT g k ((L0.drop (s + g m)).take (m - g m)))) + 1 : Nat) : Int)) (v := 1) (e _ _ rfl) (e _ _ rfl) (congrArg some ((congrArg _ (show _ = ((((n + Tr.size (mkT g k ((L0.drop s).take (g m)))) + Tr.size (mkT g k ((L0.drop (s + g m)).take (m - g m)))) + 1 - 1 : Nat) : Int) by omega)).trans (wrap_in (by omega) (by omega))))) rfl rfl ?_
      refine wl_val (v := .int .i64 ((((n + Tr.size (mkT g k ((L0.drop s).take (g m)))) + Tr.size (mkT g k ((L0.drop (s + g m)).take (m - g m)))) + 1 - 1 : Nat) : Int)) (fun ρ e => ex_assign (e _ _ rfl)) rfl rfl ?_
      refine wl_nil ?_
      refine xw_next K55 ?_
      refine cw_ret ?_
      refine xw_ret (v := .int .i64 ((((n + Tr.size (mkT g k ((L0.drop s).take (g m)))) + Tr.size (mkT g k ((L0.drop (s + g m)).take (m - g m)))) + 1 - 1 : Nat) : Int)) (fun T hT => res1 rfl T _ (hT 5 _ rfl)) ?_
      have hn : ((n + Tr.size (mkT g k ((L0.drop s).take (g m)))) + Tr.size (mkT g k ((L0.drop (s + g m)).take (m - g m)))) + 1 = n + Tr.size (mkT g (k + 1) ((L0.drop s).take m)) := by rw [hT]; simp only [Tr.size] <;> omega
      have hl : (((l ++ post (mkT g k ((L0.drop s).take (g m))) n) ++ post (mkT g k ((L0.drop (s + g m)).take (m - g m))) (n + Tr.size (mkT g k ((L0.drop s).take (g m))))) ++ [(VN.mk ((n + Tr.size (mkT g k ((L0.drop s).take (g m))) - 1 : Nat) : Int) (((n + Tr.size (mkT g k ((L0.drop s).take (g m)))) + Tr.size (mkT g k ((L0.drop (s + g m)).take (m - g m))) - 1 : Nat) : Int) 0)]) = l ++ post (mkT g (k + 1) ((L0.drop s).take m)) n := by rw [hT]; simp [post]
      have hO := (O53.re [4, 5, 0, 1, 6] rfl : Own Z w0 w51 [.blk lc 75 #[.func (.func fl) #[] #[]], .blk pc 69 #[.func (.func 76) #[] #[.pointer (some ⟨lc, 0, none⟩), .pointer (some ⟨pc, 0, none⟩), .pointer (some ⟨oc, 0, none⟩)]], .blk oc 23 #[.slice A44 (((n + Tr.size (mkT g k ((L0.drop s).take (g m)))) + Tr.size (mkT g k ((L0.drop (s + g m)).take (m - g m)))) + 1) c45], .row (.slice A44 (((n + Tr.size (mkT g k ((L0.drop s).take (g m)))) + Tr.size (mkT g k ((L0.drop (s + g m)).take (m - g m)))) + 1) c45) 38 3 (((n + Tr.size (mkT g k ((L0.drop s).take (g m)))) + Tr.size (mkT g k ((L0.drop (s + g m)).take (m - g m)))) + 1) (ncells (((l ++ post (mkT g k ((L0.drop s).take (g m))) n) ++ post (mkT g k ((L0.drop (s + g m)).take (m - g m))) (n + Tr.size (mkT g k ((L0.drop s).take (g m))))) ++ [(VN.mk ((n + Tr.size (mkT g k ((L0.drop s).take (g m))) - 1 : Nat) : Int) (((n + Tr.size (mkT g k ((L0.drop s).take (g m)))) + Tr.size (mkT g k ((L0.drop (s + g m)).take (m - g m))) - 1 : Nat) : Int) 0)])), .ro D (fun w => IntsD D w (.slice (some ⟨bl, ol, none⟩) L0.length cl) L0)])
      rw [hn, hl] at hO
      exact ⟨A44, c45, congrArg (fun z : Nat => Ending.returned (.int .i64 (z : Int))) (show ((n + Tr.size (mkT g k ((L0.drop s).take (g m)))) + Tr.size (mkT g k ((L0.drop (s + g m)).take (m - g m)))) + 1 - 1 = n + Tr.size (mkT g (k + 1) ((L0.drop s).take m)) - 1 by rw [hT]; simp only [Tr.size] <;> omega), hO⟩
theorem orderedb_ {W : World} {D : Nat → Prop} {V : Value} {l : List Int} (hI : IntsD D W V l) (hD : ∀ k, D k → k < W.heap.size) (hsz : l.length ≤ 1000000) {r : Bool} (h : ordB l = r) :
    Calls Tryd.prog 75 #[V] W fun e w' => e = .returned (.bool r) ∧ Below W.heap.size W w' := h ▸ ordered_ hI hD hsz
theorem range_few {l : List Int} (h : opreB l = true) : l.length ≤ 128 := by
  obtain ⟨h1, h2⟩ := opreB_iff.1 h
  have h3 : (l.map fun v => v - 1).Nodup := by
    rw [List.nodup_iff_pairwise_ne, List.pairwise_map]
    exact (List.nodup_iff_pairwise_ne.1 h2).imp (fun h e => h (by omega))
  have := range_len (n := 128) h3 (fun x hx => by
    obtain ⟨v, hv, rfl⟩ := List.mem_map.1 hx
    have := h1 v hv
    omega)
  simpa using this
theorem IntsD.cap {D : Nat → Prop} {w : World} {A : Option Addr} {n c : Nat} {xs : List Int} (h : IntsD D w (.slice A n c) xs) : xs.length ≤ c := by
  obtain ⟨A', c', h1, h2, _⟩ := h
  injection h1 with _ _ h1
  omega
theorem build_ {W : World} {D : Nat → Prop} {V : Value} {L0 : List Int} (hI : IntsD D W V L0) (hD : ∀ k, D k → k < W.heap.size) (hsz : L0.length ≤ 1000000) {kind : Nat} {g : Nat → Nat} (hgk : g = gOf kind) {fl : FuncId} (hin : Enters Tryd.prog fl) (HL : ∀ (m : Nat) (W : World), 2 ≤ m → m ≤ 1000000 → Calls Tryd.prog fl #[.int .i64 (m : Int)] W fun e w' => e = .returned (.int .i64 ((g m : Nat) : Int)) ∧ Below W.heap.size W w') (hg : ∀ m, 2 ≤ m → 1 ≤ g m ∧ g m < m) :
    Calls Tryd.prog 54 #[V, .func (.func fl) #[] #[]] W fun e w' => ∃ A' c', e = .returned (.tuple #[.slice A' (makeOf kind L0).1.length c', .int .i64 (makeOf kind L0).2]) ∧ Own Z0 W w' [.row (.slice A' (makeOf kind L0).1.length c') 38 3 (makeOf kind L0).1.length (ncells (makeOf kind L0).1)] := by
  obtain ⟨A, cl, rfl⟩ := hI.slice
  have O0 : Own Z0 W W [] := Own.start W
  refine sx_enter (args := [.slice A L0.length cl, .func (.func fl) #[] #[]]) Tryd.func54 rfl rfl (by simp) ?_
  refine cw_seq (fun FK1 K1 => ?_)
  refine cw_region ?_
  obtain ⟨g2, w3, r4, O5, hg6, hs7⟩ := own_box O0 75 (.func (.func fl) #[] #[]) rfl
  refine wl_val (v := .pointer (some ⟨g2, 0, none⟩)) (fun ρ e => r4 ρ _ _ _ _ _ _ (e _ _ rfl)) rfl rfl ?_
  refine wl_val (v := .slice none 0 0) (fun ρ e => ex_assign (e _ _ rfl)) rfl rfl ?_
  refine wl_val (v := .int .i64 0) (fun ρ e => ex_assign (e _ _ rfl)) rfl rfl ?_
  refine wl_nil ?_
  refine xw_next K1 ?_
  refine cw_seq (fun FK8 K8 => ?_)
  refine cw_seq (fun FK9 K9 => ?_)
  refine cw_region ?_
  refine wl_val (v := .slice A L0.length cl) (fun ρ e => ex_move (e _ _ rfl)) rfl rfl ?_
  by_cases c10 : (ordB L0) = true
  · skip
    have hlp := (ordB_iff.1 c10).1
    have hl128 := range_few (ordB_iff.1 c10).2
    obtain ⟨bl, ol, c', hv0⟩ := hI.form hlp
    injection hv0 with hA _ hc
    subst hA hc
    have hcl : L0.length ≤ cl := hI.cap
    have O11 := O5.oldro (D := D) (p := (fun w => IntsD D w (.slice (some ⟨bl, ol, none⟩) L0.length cl) L0)) (inE_holds hI hD)
    refine wl_call (args := [.slice (some ⟨bl, ol, none⟩) L0.length cl]) in_75 rfl rfl rfl ?_
    refine (orderedb_ (hI.move (fun k hk => (O11.old).block k (hD k hk))) (fun k hk => Nat.lt_of_lt_of_le (hD k hk) (O11.old).size) (by omega) (show ordB L0 = true from c10)).mono ?_
    rintro _ w12 ⟨rfl, hb13⟩
    have O14 : Own Z0 W w12 [.ro D (fun w => IntsD D w (.slice (some ⟨bl, ol, none⟩) L0.length cl) L0), .blk g2 75 #[.func (.func fl) #[] #[]]] := O11.below hb13
    refine ⟨_, rfl, ?_⟩
    refine wl_val (v := .bool false) (fun ρ e => ex_lnot (b := true) (e _ _ rfl)) rfl rfl ?_
    refine wl_nil ?_
    refine xw_next K9 ?_
    refine cw_false rfl ?_
    refine cw_skip ?_
    refine xw_next K8 ?_
    refine cw_seq (fun FK15 K15 => ?_)
    refine cw_region ?_
    obtain ⟨g16, w17, r18, O19, hg20, hs21⟩ := own_alloc O14 23 ze23 rfl
    refine wl_val (v := .pointer (some ⟨g16, 0, none⟩)) (fun ρ e => r18 ρ _ _ _ _ _) rfl rfl ?_
    refine wl_nil ?_
    refine xw_next K15 ?_
    refine cw_seq (fun FK22 K22 => ?_)
    refine cw_region ?_
    obtain ⟨g23, w24, r25, O26, hg27, hs28⟩ := own_alloc O19 69 ze69 rfl
    refine wl_val (v := .pointer (some ⟨g23, 0, none⟩)) (fun ρ e => r25 ρ _ _ _ _ _) rfl rfl ?_
    refine wl_nil ?_
    refine xw_next K22 ?_
    refine cw_seq (fun FK29 K29 => ?_)
    refine cw_region ?_
    refine wl_val (v := .func (.func 76) #[] #[.pointer (some ⟨g2, 0, none⟩), .pointer (some ⟨g23, 0, none⟩), .pointer (some ⟨g16, 0, none⟩)]) (fun ρ e => ex_func (us := []) (vs := [.pointer (some ⟨g2, 0, none⟩), .pointer (some ⟨g23, 0, none⟩), .pointer (some ⟨g16, 0, none⟩)]) (e.list rfl) (e.list rfl)) rfl rfl ?_
    obtain ⟨w30, r31, O32, hs33⟩ := own_put (o := 0) (n := 1) O26 ty69 (.func (.func 76) #[] #[.pointer (some ⟨g2, 0, none⟩), .pointer (some ⟨g23, 0, none⟩), .pointer (some ⟨g16, 0, none⟩)]) [.func (.func 76) #[] #[.pointer (some ⟨g2, 0, none⟩), .pointer (some ⟨g23, 0, none⟩), .pointer (some ⟨g16, 0, none⟩)]] (cs' := #[.func (.func 76) #[] #[.pointer (some ⟨g2, 0, none⟩), .pointer (some ⟨g23, 0, none⟩), .pointer (some ⟨g16, 0, none⟩)]]) rfl rfl rfl (Nat.le_of_ble_eq_true rfl) rfl
    refine wl_none (fun ρ e => r31 ρ _ _ _ _ _ _ (e _ _ rfl) (e _ _ rfl)) rfl ?_
    refine wl_nil ?_
    refine xw_next K29 ?_
    refine cw_seq (fun FK34 K34 => ?_)
    refine cw_region ?_
    refine wl_val (v := .func (.func 76) #[] #[.pointer (some ⟨g2, 0, none⟩), .pointer (some ⟨g23, 0, none⟩), .pointer (some ⟨g16, 0, none⟩)]) (fun ρ e => ex_load1 ty69 (e _ _ rfl) (O32.cell 0 0 rfl rfl)) rfl rfl ?_
    refine wl_val (v := .slice (some ⟨bl, ol, none⟩) L0.length cl) (fun ρ e => ex_move (e _ _ rfl)) rfl rfl ?_
    refine wl_callv (args := [.slice (some ⟨bl, ol, none⟩) L0.length cl]) (all := [.slice (some ⟨bl, ol, none⟩) L0.length cl, .pointer (some ⟨g2, 0, none⟩), .pointer (some ⟨g23, 0, none⟩), .pointer (some ⟨g16, 0, none⟩)]) in_76 rfl rfl rfl rfl rfl ?_
    have O35 : Own Z0 W w30 [.row (.slice none 0 0) 38 3 0 (ncells []), .blk g23 69 #[.func (.func 76) #[] #[.pointer (some ⟨g2, 0, none⟩), .pointer (some ⟨g23, 0, none⟩), .pointer (some ⟨g16, 0, none⟩)]], .blk g16 23 #[.slice none 0 0], .ro D (fun w => IntsD D w (.slice (some ⟨bl, ol, none⟩) L0.length cl) L0), .blk g2 75 #[.func (.func fl) #[] #[]]] := O32.nilrow 38 3
    have O40h := Own.hand (A := [.blk g2 75 #[.func (.func fl) #[] #[]], .blk g23 69 #[.func (.func 76) #[] #[.pointer (some ⟨g2, 0, none⟩), .pointer (some ⟨g23, 0, none⟩), .pointer (some ⟨g16, 0, none⟩)]], .blk g16 23 #[.slice none 0 0], .row (.slice none 0 0) 38 3 0 (ncells []), .ro D (fun w => IntsD D w (.slice (some ⟨bl, ol, none⟩) L0.length cl) L0)]) (R := []) (O35.re [4, 1, 2, 0, 3] rfl : Own Z0 W w30 [.blk g2 75 #[.func (.func fl) #[] #[]], .blk g23 69 #[.func (.func 76) #[] #[.pointer (some ⟨g2, 0, none⟩), .pointer (some ⟨g23, 0, none⟩), .pointer (some ⟨g16, 0, none⟩)]], .blk g16 23 #[.slice none 0 0], .row (.slice none 0 0) 38 3 0 (ncells []), .ro D (fun w => IntsD D w (.slice (some ⟨bl, ol, none⟩) L0.length cl) L0)])
    have hwh : (L0.drop 0).take L0.length = L0 := by rw [List.drop_zero, List.take_length]
    have hpt := (part_ hin HL hg L0.length 0 L0.length cl (by omega) (by omega) (by omega) hcl _ _ _ _ _ _ [] O40h (by omega))
    rw [hwh] at hpt
    refine (hpt).mono ?_
    rintro _ w38 ⟨A36, c37, rfl, h39⟩
    have O40 : Own Z0 W w38 [.blk g2 75 #[.func (.func fl) #[] #[]], .blk g23 69 #[.func (.func 76) #[] #[.pointer (some ⟨g2, 0, none⟩), .pointer (some ⟨g23, 0, none⟩), .pointer (some ⟨g16, 0, none⟩)]], .blk g16 23 #[.slice A36 (0 + Tr.size (mkT g L0.length L0)) c37], .row (.slice A36 (0 + Tr.size (mkT g L0.length L0)) c37) 38 3 (0 + Tr.size (mkT g L0.length L0)) (ncells ([] ++ post (mkT g L0.length L0) 0)), .ro D (fun w => IntsD D w (.slice (some ⟨bl, ol, none⟩) L0.length cl) L0)] := Own.frame (A := [.blk g2 75 #[.func (.func fl) #[] #[]], .blk g23 69 #[.func (.func 76) #[] #[.pointer (some ⟨g2, 0, none⟩), .pointer (some ⟨g23, 0, none⟩), .pointer (some ⟨g16, 0, none⟩)]], .blk g16 23 #[.slice none 0 0], .row (.slice none 0 0) 38 3 0 (ncells []), .ro D (fun w => IntsD D w (.slice (some ⟨bl, ol, none⟩) L0.length cl) L0)]) (R := []) (O35.re [4, 1, 2, 0, 3] rfl : Own Z0 W w30 [.blk g2 75 #[.func (.func fl) #[] #[]], .blk g23 69 #[.func (.func 76) #[] #[.pointer (some ⟨g2, 0, none⟩), .pointer (some ⟨g23, 0, none⟩), .pointer (some ⟨g16, 0, none⟩)]], .blk g16 23 #[.slice none 0 0], .row (.slice none 0 0) 38 3 0 (ncells []), .ro D (fun w => IntsD D w (.slice (some ⟨bl, ol, none⟩) L0.length cl) L0)]) h39
    refine ⟨_, rfl, ?_⟩
    refine wl_nil ?_
    refine xw_next K34 ?_
    refine cw_seq (fun FK41 K41 => ?_)
    refine cw_region ?_
    refine wl_val (v := .slice A36 (0 + Tr.size (mkT g L0.length L0)) c37) (fun ρ e => ex_load1 ty23 (e _ _ rfl) (O40.cell 2 0 rfl rfl)) rfl rfl ?_
    refine wl_val (v := .slice A36 (0 + Tr.size (mkT g L0.length L0)) c37) (fun ρ e => ex_assign (e _ _ rfl)) rfl rfl ?_
    refine wl_val (v := .int .i64 0) (fun ρ e => ex_assign (e _ _ rfl)) rfl rfl ?_
    refine wl_nil ?_
    refine xw_next K41 ?_
    refine cw_ret ?_
    refine xw_ret (v := .tuple #[.slice A36 (0 + Tr.size (mkT g L0.length L0)) c37, .int .i64 0]) (fun T hT => res2 rfl T _ (hT 4 _ rfl) (hT 5 _ rfl)) ?_
    have hm : makeOf kind L0 = (post (mkT g L0.length L0) 0, 0) := by unfold makeOf; rw [c10, ← hgk]; rfl
    rw [hm]
    simp only [post_len]
    have hO := (O40.re [3] rfl : Own Z0 W w38 [.row (.slice A36 (0 + Tr.size (mkT g L0.length L0)) c37) 38 3 (0 + Tr.size (mkT g L0.length L0)) (ncells ([] ++ post (mkT g L0.length L0) 0))])
    rw [Nat.zero_add, List.nil_append] at hO
    exact ⟨A36, c37, by rw [Nat.zero_add], hO⟩
  · skip
    refine wl_call (args := [.slice A L0.length cl]) in_75 rfl rfl rfl ?_
    refine (orderedb_ (hI.move (fun k hk => (O5.old).block k (hD k hk))) (fun k hk => Nat.lt_of_lt_of_le (hD k hk) (O5.old).size) (by omega) (show ordB L0 = false from Bool.eq_false_iff.2 c10)).mono ?_
    rintro _ w42 ⟨rfl, hb43⟩
    have O44 : Own Z0 W w42 [.blk g2 75 #[.func (.func fl) #[] #[]]] := O5.below hb43
    refine ⟨_, rfl, ?_⟩
    refine wl_val (v := .bool true) (fun ρ e => ex_lnot (b := false) (e _ _ rfl)) rfl rfl ?_
    refine wl_nil ?_
    refine xw_next K9 ?_
    refine cw_true rfl ?_
    refine cw_seq (fun FK45 K45 => ?_)
    refine cw_region ?_
    refine wl_val (v := .slice none 0 0) (fun ρ e => ex_assign (e _ _ rfl)) rfl rfl ?_
    refine wl_val (v := .int .i64 1) (fun ρ e => ex_assign (e _ _ rfl)) rfl rfl ?_
    refine wl_nil ?_
    refine xw_next K45 ?_
    refine cw_ret ?_
    refine xw_past (by intro h; cases h) ?_
    refine xw_ret (v := .tuple #[.slice none 0 0, .int .i64 1]) (fun T hT => res2 rfl T _ (hT 4 _ rfl) (hT 5 _ rfl)) ?_
    have hm : makeOf kind L0 = ([], 1) := by unfold makeOf; rw [Bool.eq_false_iff.2 c10]; rfl
    rw [hm]
    have O46 := O44.nilrow 38 3
    exact ⟨none, 0, rfl, O46.re [0] rfl⟩
theorem right_ {W : World} {D : Nat → Prop} {V : Value} {L0 : List Int} (hI : IntsD D W V L0) (hD : ∀ k, D k → k < W.heap.size) (hsz : L0.length ≤ 1000000) :
    Calls Tryd.prog 24 #[V] W fun e w' => ∃ A' c', e = .returned (.tuple #[.slice A' (makeOf 1 L0).1.length c', .int .i64 (makeOf 1 L0).2]) ∧ Own Z0 W w' [.row (.slice A' (makeOf 1 L0).1.length c') 38 3 (makeOf 1 L0).1.length (ncells (makeOf 1 L0).1)] := by
  obtain ⟨A, cl, rfl⟩ := hI.slice
  have O0 : Own Z0 W W [] := Own.start W
  refine sx_enter (args := [.slice A L0.length cl]) Tryd.func24 rfl rfl (by simp) ?_
  refine cw_seq (fun FK1 K1 => ?_)
  refine cw_region ?_
  refine wl_val (v := .slice none 0 0) (fun ρ e => ex_assign (e _ _ rfl)) rfl rfl ?_
  refine wl_val (v := .int .i64 0) (fun ρ e => ex_assign (e _ _ rfl)) rfl rfl ?_
  refine wl_nil ?_
  refine xw_next K1 ?_
  refine cw_seq (fun FK2 K2 => ?_)
  refine cw_region ?_
  refine wl_val (v := .slice A L0.length cl) (fun ρ e => ex_move (e _ _ rfl)) rfl rfl ?_
  refine wl_call (args := [.slice A L0.length cl, .func (.func 55) #[] #[]]) in_54 rfl rfl rfl ?_
  refine (build_ (kind := 1) (hI.move (fun k hk => (O0.old).block k (hD k hk))) (fun k hk => Nat.lt_of_lt_of_le (hD k hk) (O0.old).size) hsz rfl in_55 (fun m W h h2 => part55 h h2) (gOf_good 1)).mono ?_
  rintro _ w5 ⟨A3, c4, rfl, h6⟩
  have O7 := O0.join1 h6 trivial
  refine ⟨_, rfl, ?_⟩
  refine wl_val (v := .slice A3 ((makeOf 1 L0).1.length) c4) (fun ρ e => ex_extract (vs := #[.slice A3 ((makeOf 1 L0).1.length) c4, .int .i64 ((makeOf 1 L0).2)]) (e _ _ rfl) rfl) rfl rfl ?_
  refine wl_val (v := .int .i64 ((makeOf 1 L0).2)) (fun ρ e => ex_extract (vs := #[.slice A3 ((makeOf 1 L0).1.length) c4, .int .i64 ((makeOf 1 L0).2)]) (e _ _ rfl) rfl) rfl rfl ?_
  refine wl_val (v := .slice A3 ((makeOf 1 L0).1.length) c4) (fun ρ e => ex_assign (e _ _ rfl)) rfl rfl ?_
  refine wl_val (v := .int .i64 ((makeOf 1 L0).2)) (fun ρ e => ex_assign (e _ _ rfl)) rfl rfl ?_
  refine wl_nil ?_
  refine xw_next K2 ?_
  refine cw_ret ?_
  refine xw_ret (v := .tuple #[.slice A3 ((makeOf 1 L0).1.length) c4, .int .i64 ((makeOf 1 L0).2)]) (fun T hT => res2 rfl T _ (hT 2 _ rfl) (hT 3 _ rfl)) ?_
  exact ⟨A3, c4, rfl, O7⟩
end Go.Proofs.YtpeoodkepjhhiaaDoor
namespace Go.Proofs.YtpeoodkepjhhiaaDoor
open Go Go.RowKit
theorem read_ {W : World} (s : ByteArray) (tab : Tab W) : Calls Tryd.prog 47 #[.string s] W fun e w' => ∃ A' c', e = .returned (.slice A' (parseOf s.data.toList).1.length c') ∧ Own Z0 W w' [.row (.slice A' (parseOf s.data.toList).1.length c') 38 3 (parseOf s.data.toList).1.length (ncells (parseOf s.data.toList).1)] := by
  have O0 : Own Z0 W W [] := Own.start W
  refine sx_enter (args := [.string s]) Tryd.func47 rfl rfl (by simp) ?_
  refine cw_seq (fun FK1 K1 => ?_)
  refine cw_region ?_
  refine wl_val (v := .slice none 0 0) (fun ρ e => ex_assign (e _ _ rfl)) rfl rfl ?_
  refine wl_nil ?_
  refine xw_next K1 ?_
  refine cw_seq (fun FK2 K2 => ?_)
  refine cw_region ?_
  refine wl_val (v := .string s) (fun ρ e => ex_move (e _ _ rfl)) rfl rfl ?_
  refine wl_call (args := [.string s]) in_17 rfl rfl rfl ?_
  have hc8 := parse_ s (tab.below (Nat.le_refl _) O0.old)
  refine hc8.mono ?_
  rintro _ w5 ⟨A3, c4, rfl, h6⟩
  have O7 := O0.join1 h6 trivial
  refine ⟨_, rfl, ?_⟩
  refine wl_val (v := .tuple #[.slice A3 ((parseOf s.data.toList).1.length) c4, .int .i64 ((parseOf s.data.toList).2)]) (fun ρ e => ex_move (e _ _ rfl)) rfl rfl ?_
  refine wl_val (v := .slice A3 ((parseOf s.data.toList).1.length) c4) (fun ρ e => ex_extract (vs := #[.slice A3 ((parseOf s.data.toList).1.length) c4, .int .i64 ((parseOf s.data.toList).2)]) (e _ _ rfl) rfl) rfl rfl ?_
  refine wl_val (v := .int .i64 ((parseOf s.data.toList).2)) (fun ρ e => ex_extract (vs := #[.slice A3 ((parseOf s.data.toList).1.length) c4, .int .i64 ((parseOf s.data.toList).2)]) (e _ _ rfl) rfl) rfl rfl ?_
  refine wl_val (v := .slice A3 ((parseOf s.data.toList).1.length) c4) (fun ρ e => ex_assign (e _ _ rfl)) rfl rfl ?_
  refine wl_val (v := .int .i64 ((parseOf s.data.toList).2)) (fun ρ e => ex_assign (e _ _ rfl)) rfl rfl ?_
  refine wl_nil ?_
  refine xw_next K2 ?_
  refine cw_seq (fun FK9 K9 => ?_)
  refine cw_region ?_
  refine wl_val (v := .slice A3 ((parseOf s.data.toList).1.length) c4) (fun ρ e => ex_move (e _ _ rfl)) rfl rfl ?_
  refine wl_val (v := .slice A3 ((parseOf s.data.toList).1.length) c4) (fun ρ e => ex_assign (e _ _ rfl)) rfl rfl ?_
  refine wl_nil ?_
  refine xw_next K9 ?_
  refine cw_ret ?_
  refine xw_ret (v := .slice A3 ((parseOf s.data.toList).1.length) c4) (fun T hT => res1 rfl T _ (hT 2 _ rfl)) ?_
  exact ⟨A3, c4, rfl, O7⟩
def shownOf (ts : List VN) (ev : Int) : ByteArray := if ev ≠ 0 ∨ chkV ts ≠ 0 then ⟨#[110, 111, 110, 101]⟩ else ⟨(printOf ts).toArray⟩
theorem shown_ {W : World} {D : Nat → Prop} {V : Value} {ts : List VN} (hN : NodesD D W V ts) (hD : ∀ k, D k → k < W.heap.size) (tab : Tab W) (ev : Int) : Calls Tryd.prog 21 #[V, .int .i64 ev] W fun e w' => e = .returned (.string (shownOf ts ev)) ∧ Below W.heap.size W w' := by
  obtain ⟨A, c, rfl⟩ := hN.slice
  have O0 : Own Z0 W W [] := Own.start W
  refine sx_enter (args := [.slice A ts.length c, .int .i64 ev]) Tryd.func21 rfl rfl (by simp) ?_
  refine cw_seq (fun FK1 K1 => ?_)
  refine cw_region ?_
  refine wl_val (v := .string (⟨#[]⟩)) (fun ρ e => ex_assign (e _ _ rfl)) rfl rfl ?_
  refine wl_nil ?_
  refine xw_next K1 ?_
  refine cw_seq (fun FK2 K2 => ?_)
  refine cw_region ?_
  refine wl_val (v := .slice A ts.length c) (fun ρ e => ex_move (e _ _ rfl)) rfl rfl ?_
  refine wl_call (args := [.slice A ts.length c]) in_39 rfl rfl rfl ?_
  refine (print_ (hN.move (fun k hk => (O0.old).block k (hD k hk))) (fun k hk => Nat.lt_of_lt_of_le (hD k hk) (O0.old).size) (tab.below (Nat.le_refl _) O0.old)).mono ?_
  rintro _ w3 ⟨rfl, hb4⟩
  have O5 : Own Z0 W w3 [] := O0.below hb4
  refine ⟨_, rfl, ?_⟩
  refine wl_val (v := .tuple #[.string (⟨(printOf ts).toArray⟩), .int .i64 (chkV ts)]) (fun ρ e => ex_move (e _ _ rfl)) rfl rfl ?_
  refine wl_val (v := .string (⟨(printOf ts).toArray⟩)) (fun ρ e => ex_extract (vs := #[.string (⟨(printOf ts).toArray⟩), .int .i64 (chkV ts)]) (e _ _ rfl) rfl) rfl rfl ?_
  refine wl_val (v := .int .i64 (chkV ts)) (fun ρ e => ex_extract (vs := #[.string (⟨(printOf ts).toArray⟩), .int .i64 (chkV ts)]) (e _ _ rfl) rfl) rfl rfl ?_
  refine wl_val (v := .string (⟨(printOf ts).toArray⟩)) (fun ρ e => ex_assign (e _ _ rfl)) rfl rfl ?_
  refine wl_val (v := .int .i64 (chkV ts)) (fun ρ e => ex_assign (e _ _ rfl)) rfl rfl ?_
  refine wl_nil ?_
  refine xw_next K2 ?_
  refine cw_seq (fun FK6 K6 => ?_)
  refine cw_seq (fun FK7 K7 => ?_)
  refine cw_region ?_
  refine wl_val (v := .int .i64 ev) (fun ρ e => ex_move (e _ _ rfl)) rfl rfl ?_
  by_cases c8 : ev ≠ 0
  · skip
    refine wl_val (v := .bool true) (fun ρ e => ex_cmp (u := ev) (v := 0) (e _ _ rfl) (e _ _ rfl) (neq1 (by omega))) rfl rfl ?_
    refine wl_val (v := .bool true) (fun ρ e => ex_move (e _ _ rfl)) rfl rfl ?_
    refine wl_skip rfl rfl ?_
    refine wl_skip rfl rfl ?_
    refine wl_val (v := .bool true) (fun ρ e => ex_pick1 (e _ _ rfl) (e _ _ rfl)) rfl rfl ?_
    refine wl_nil ?_
    refine xw_next K7 ?_
    refine cw_true rfl ?_
    refine cw_seq (fun FK9 K9 => ?_)
    refine cw_region ?_
    refine wl_val (v := .string (⟨#[110, 111, 110, 101]⟩)) (fun ρ e => ex_assign (e _ _ rfl)) rfl rfl ?_
    refine wl_nil ?_
    refine xw_next K9 ?_
    refine cw_ret ?_
    refine xw_past (by intro h; cases h) ?_
    refine xw_ret (v := .string (⟨#[110, 111, 110, 101]⟩)) (fun T hT => res1 rfl T _ (hT 4 _ rfl)) ?_
    have hs : shownOf ts ev = ⟨#[110, 111, 110, 101]⟩ := by unfold shownOf; rw [if_pos (by omega)]
    rw [hs]
    exact ⟨rfl, O5.old⟩
  · skip
    refine wl_val (v := .bool false) (fun ρ e => ex_cmp (u := ev) (v := 0) (e _ _ rfl) (e _ _ rfl) (neq0 (by omega))) rfl rfl ?_
    refine wl_val (v := .bool false) (fun ρ e => ex_move (e _ _ rfl)) rfl rfl ?_
    refine wl_val (v := .int .i64 (chkV ts)) (fun ρ e => ex_move (e _ _ rfl)) rfl rfl ?_
    by_cases c10 : (chkV ts) ≠ 0
    · skip
      refine wl_val (v := .bool true) (fun ρ e => ex_cmp (u := (chkV ts)) (v := 0) (e _ _ rfl) (e _ _ rfl) (neq1 (by omega))) rfl rfl ?_
      refine wl_val (v := .bool true) (fun ρ e => ex_pick0 (e _ _ rfl) (e _ _ rfl)) rfl rfl ?_
      refine wl_nil ?_
      refine xw_next K7 ?_
      refine cw_true rfl ?_
      refine cw_seq (fun FK11 K11 => ?_)
      refine cw_region ?_
      refine wl_val (v := .string (⟨#[110, 111, 110, 101]⟩)) (fun ρ e => ex_assign (e _ _ rfl)) rfl rfl ?_
      refine wl_nil ?_
      refine xw_next K11 ?_
      refine cw_ret ?_
      refine xw_past (by intro h; cases h) ?_
      refine xw_ret (v := .string (⟨#[110, 111, 110, 101]⟩)) (fun T hT => res1 rfl T _ (hT 4 _ rfl)) ?_
      have hs : shownOf ts ev = ⟨#[110, 111, 110, 101]⟩ := by unfold shownOf; rw [if_pos (by omega)]
      rw [hs]
      exact ⟨rfl, O5.old⟩
    · skip
      refine wl_val (v := .bool false) (fun ρ e => ex_cmp (u := (chkV ts)) (v := 0) (e _ _ rfl) (e _ _ rfl) (neq0 (by omega))) rfl rfl ?_
      refine wl_val (v := .bool false) (fun ρ e => ex_pick0 (e _ _ rfl) (e _ _ rfl)) rfl rfl ?_
      refine wl_nil ?_
      refine xw_next K7 ?_
      refine cw_false rfl ?_
      refine cw_skip ?_
      refine xw_next K6 ?_
      refine cw_seq (fun FK12 K12 => ?_)
      refine cw_region ?_
      refine wl_val (v := .string (⟨(printOf ts).toArray⟩)) (fun ρ e => ex_move (e _ _ rfl)) rfl rfl ?_
      refine wl_val (v := .string (⟨(printOf ts).toArray⟩)) (fun ρ e => ex_assign (e _ _ rfl)) rfl rfl ?_
      refine wl_nil ?_
      refine xw_next K12 ?_
      refine cw_ret ?_
      refine xw_ret (v := .string (⟨(printOf ts).toArray⟩)) (fun T hT => res1 rfl T _ (hT 4 _ rfl)) ?_
      have hs : shownOf ts ev = ⟨(printOf ts).toArray⟩ := by unfold shownOf; rw [if_neg (by omega)]
      rw [hs]
      exact ⟨rfl, O5.old⟩
def T5 : List VN := [⟨-1, -1, 3⟩, ⟨-1, -1, 1⟩, ⟨0, 1, 0⟩, ⟨-1, -1, 2⟩, ⟨2, 3, 0⟩]
def T6 : List VN := [⟨-1, -1, 3⟩, ⟨-1, -1, 1⟩, ⟨-1, -1, 2⟩, ⟨1, 2, 0⟩, ⟨0, 3, 0⟩]
def T7 : List VN := [⟨-1, -1, 1⟩, ⟨-1, -1, 3⟩, ⟨0, 1, 0⟩, ⟨-1, -1, 2⟩, ⟨2, 3, 0⟩]
theorem w5 : parseOf (⟨#[40, 40, 51, 32, 49, 41, 32, 50, 41]⟩ : ByteArray).data.toList = (T5, 0) := by kernel_rfl
theorem w6 : movOf T5 1 4 = (T6, 0) := by kernel_rfl
theorem w7 : movOf T5 3 2 = (T7, 0) := by kernel_rfl
theorem w8 : makeOf 1 [3, 1, 2] = (T6, 0) := by kernel_rfl
theorem w9 : meetOf T5 0 3 = 4 := by kernel_rfl
theorem s6 : shownOf T6 0 = ⟨#[40, 51, 32, 40, 49, 32, 50, 41, 41]⟩ := by kernel_rfl
theorem s7 : shownOf T7 0 = ⟨#[40, 40, 49, 32, 51, 41, 32, 50, 41]⟩ := by kernel_rfl
theorem works_ {W : World} (tab : Tab W) : Calls Tryd.prog 14 #[] W fun e w' => e = .returned (.bool true) ∧ Below W.heap.size W w' := by
  have O0 : Own Z0 W W [] := Own.start W
  refine sx_enter (args := []) Tryd.func14 rfl rfl (by simp) ?_
  refine cw_seq (fun FK1 K1 => ?_)
  refine cw_region ?_
  refine wl_val (v := .bool false) (fun ρ e => ex_assign (e _ _ rfl)) rfl rfl ?_
  refine wl_nil ?_
  refine xw_next K1 ?_
  refine cw_seq (fun FK2 K2 => ?_)
  refine cw_region ?_
  refine wl_call (args := [.string (⟨#[40, 40, 51, 32, 49, 41, 32, 50, 41]⟩)]) in_47 rfl rfl rfl ?_
  have hc8 := read_ ⟨#[40, 40, 51, 32, 49, 41, 32, 50, 41]⟩ (tab.below (Nat.le_refl _) O0.old)
  rw [w5] at hc8
  refine hc8.mono ?_
  rintro _ w5 ⟨A3, c4, rfl, h6⟩
  have O7 := O0.join1 h6 trivial
  obtain ⟨g9, hg9⟩ := rowaddr (O7.row 0 rfl) (by decide)
  subst hg9
  refine ⟨_, rfl, ?_⟩
  refine wl_val (v := .slice (some ⟨g9, 0, none⟩) 5 c4) (fun ρ e => ex_assign (e _ _ rfl)) rfl rfl ?_
  refine wl_nil ?_
  refine xw_next K2 ?_
  refine cw_seq (fun FK10 K10 => ?_)
  refine cw_region ?_
  refine wl_val (v := .slice (some ⟨g9, 0, none⟩) 5 c4) (fun ρ e => ex_move (e _ _ rfl)) rfl rfl ?_
  refine wl_val (v := .int .i64 (5 : Int)) (fun ρ e => ex_len el23 (e _ _ rfl)) rfl rfl ?_
  refine wl_val (v := .bool true) (fun ρ e => ex_cmp (u := (5 : Int)) (v := 5) (e _ _ rfl) (e _ _ rfl) (eql1 (by omega))) rfl rfl ?_
  refine wl_val (v := .bool true) (fun ρ e => ex_move (e _ _ rfl)) rfl rfl ?_
  refine wl_val (v := .slice (some ⟨g9, 0, none⟩) 5 c4) (fun ρ e => ex_move (e _ _ rfl)) rfl rfl ?_
  refine wl_val (v := .pointer (some ⟨g9, 6, none⟩)) (fun ρ e => ex_idx (q := 6) (i := 2) el23 (e _ _ rfl) (e _ _ rfl) (by omega) (by omega)) rfl rfl ?_
  refine wl_val (v := .agg #[.int .i64 0, .int .i64 1, .int .i64 0]) (fun ρ e => ex_loadN (vs := [.int .i64 0, .int .i64 1, .int .i64 0]) ty38 (e _ _ rfl) rfl (cells3 (rowcell (O7.row 0 rfl) (show (ncells T5)[6]? = _ from rfl)) (rowcell (O7.row 0 rfl) (show (ncells T5)[7]? = _ from rfl)) (rowcell (O7.row 0 rfl) (show (ncells T5)[8]? = _ from rfl)))) rfl rfl ?_
  refine wl_val (v := .agg #[.int .i64 0, .int .i64 1, .int .i64 0]) (fun ρ e => ex_build (cells := #[.int .i64 0, .int .i64 1, .int .i64 0]) st38 (e.parts rfl) rfl) rfl rfl ?_
  refine wl_val (v := .bool true) (fun ρ e => ex_eqN (a := (VN.mk 0 1 0)) (b := (VN.mk 0 1 0)) (e _ _ rfl) (e _ _ rfl) (decide_eq_true rfl)) rfl rfl ?_
  refine wl_val (v := .bool true) (fun ρ e => ex_pick1 (e _ _ rfl) (e _ _ rfl)) rfl rfl ?_
  refine wl_val (v := .bool true) (fun ρ e => ex_move (e _ _ rfl)) rfl rfl ?_
  refine wl_val (v := .slice (some ⟨g9, 0, none⟩) 5 c4) (fun ρ e => ex_move (e _ _ rfl)) rfl rfl ?_
  refine wl_call (args := [.slice (some ⟨g9, 0, none⟩) 5 c4, .int .i64 4]) in_32 rfl rfl rfl ?_
  have hc16 := rotr_ (NodesD.of_row (O7.row 0 rfl)) (fun k hk => (World.ownsRow.lt (O7.row 0 rfl) k hk).2) 4
  rw [w6] at hc16
  refine hc16.mono ?_
  rintro _ w13 ⟨A11, c12, rfl, h14⟩
  have O15 := O7.join1 h14 trivial
  refine ⟨_, rfl, ?_⟩
  refine wl_val (v := .slice A11 T6.length c12) (fun ρ e => ex_extract (vs := #[.slice A11 T6.length c12, .int .i64 0]) (e _ _ rfl) rfl) rfl rfl ?_
  refine wl_val (v := .int .i64 0) (fun ρ e => ex_extract (vs := #[.slice A11 T6.length c12, .int .i64 0]) (e _ _ rfl) rfl) rfl rfl ?_
  refine wl_call (args := [.slice A11 T6.length c12, .int .i64 0]) in_21 rfl rfl rfl ?_
  have hc17 := shown_ (NodesD.of_row (O15.row 0 rfl)) (fun k hk => (World.ownsRow.lt (O15.row 0 rfl) k hk).2) (tab.below (Nat.le_refl _) O15.old) 0
  rw [s6] at hc17
  refine hc17.mono ?_
  rintro _ w18 ⟨rfl, hb19⟩
  have O20 : Own Z0 W w18 [.row (.slice A11 T6.length c12) 38 3 T6.length (ncells T6), .row (.slice (some ⟨g9, 0, none⟩) 5 c4) 38 3 5 (ncells T5)] := O15.below hb19
  refine ⟨_, rfl, ?_⟩
  refine wl_val (v := .bool true) (fun ρ e => ex_eqS (a := ⟨#[40, 51, 32, 40, 49, 32, 50, 41, 41]⟩) (b := ⟨#[40, 51, 32, 40, 49, 32, 50, 41, 41]⟩) (e _ _ rfl) (e _ _ rfl) (by rw [decide_eq_true rfl])) rfl rfl ?_
  refine wl_val (v := .bool true) (fun ρ e => ex_pick1 (e _ _ rfl) (e _ _ rfl)) rfl rfl ?_
  refine wl_val (v := .bool true) (fun ρ e => ex_move (e _ _ rfl)) rfl rfl ?_
  refine wl_val (v := .slice (some ⟨g9, 0, none⟩) 5 c4) (fun ρ e => ex_move (e _ _ rfl)) rfl rfl ?_
  refine wl_call (args := [.slice (some ⟨g9, 0, none⟩) 5 c4, .int .i64 2]) in_34 rfl rfl rfl ?_
  have hc26 := swap_ (NodesD.of_row (O20.row 1 rfl)) (fun k hk => (World.ownsRow.lt (O20.row 1 rfl) k hk).2) 2
  rw [w7] at hc26
  refine hc26.mono ?_
  rintro _ w23 ⟨A21, c22, rfl, h24⟩
  have O25 := O20.join1 h24 trivial
  refine ⟨_, rfl, ?_⟩
  refine wl_val (v := .slice A21 T7.length c22) (fun ρ e => ex_extract (vs := #[.slice A21 T7.length c22, .int .i64 0]) (e _ _ rfl) rfl) rfl rfl ?_
  refine wl_val (v := .int .i64 0) (fun ρ e => ex_extract (vs := #[.slice A21 T7.length c22, .int .i64 0]) (e _ _ rfl) rfl) rfl rfl ?_
  refine wl_call (args := [.slice A21 T7.length c22, .int .i64 0]) in_21 rfl rfl rfl ?_
  have hc27 := shown_ (NodesD.of_row (O25.row 0 rfl)) (fun k hk => (World.ownsRow.lt (O25.row 0 rfl) k hk).2) (tab.below (Nat.le_refl _) O25.old) 0
  rw [s7] at hc27
  refine hc27.mono ?_
  rintro _ w28 ⟨rfl, hb29⟩
  have O30 : Own Z0 W w28 [.row (.slice A21 T7.length c22) 38 3 T7.length (ncells T7), .row (.slice A11 T6.length c12) 38 3 T6.length (ncells T6), .row (.slice (some ⟨g9, 0, none⟩) 5 c4) 38 3 5 (ncells T5)] := O25.below hb29
  refine ⟨_, rfl, ?_⟩
  refine wl_val (v := .bool true) (fun ρ e => ex_eqS (a := ⟨#[40, 40, 49, 32, 51, 41, 32, 50, 41]⟩) (b := ⟨#[40, 40, 49, 32, 51, 41, 32, 50, 41]⟩) (e _ _ rfl) (e _ _ rfl) (by rw [decide_eq_true rfl])) rfl rfl ?_
  refine wl_val (v := .bool true) (fun ρ e => ex_pick1 (e _ _ rfl) (e _ _ rfl)) rfl rfl ?_
  refine wl_val (v := .bool true) (fun ρ e => ex_move (e _ _ rfl)) rfl rfl ?_
  obtain ⟨g31, w32, r33, O34, hg35, hs36⟩ := own_slice O30 el36 ze3 3 [(0, .int .i64 3), (1, .int .i64 1), (2, .int .i64 2)] (cs := #[.int .i64 3, .int .i64 1, .int .i64 2]) (by decide) (by kernel_rfl)
  refine wl_val (v := .slice (some ⟨g31, 0, none⟩) 3 3) (fun ρ e => r33 ρ _ _ _ _ _ _ (e.parts rfl)) rfl rfl ?_
  refine wl_call (args := [.slice (some ⟨g31, 0, none⟩) 3 3]) in_24 rfl rfl rfl ?_
  have hc42 := right_ (IntsD.of_blk (n := 3) (l := [3, 1, 2]) (O34.blk 0 rfl) rfl (by unfold maxLen; omega)) (fun k hk => hk ▸ (O34.blk 0 rfl).lt) (by decide)
  rw [w8] at hc42
  refine hc42.mono ?_
  rintro _ w39 ⟨A37, c38, rfl, h40⟩
  have O41 := O34.join1 h40 trivial
  refine ⟨_, rfl, ?_⟩
  refine wl_val (v := .slice A37 T6.length c38) (fun ρ e => ex_extract (vs := #[.slice A37 T6.length c38, .int .i64 0]) (e _ _ rfl) rfl) rfl rfl ?_
  refine wl_val (v := .int .i64 0) (fun ρ e => ex_extract (vs := #[.slice A37 T6.length c38, .int .i64 0]) (e _ _ rfl) rfl) rfl rfl ?_
  refine wl_call (args := [.slice A37 T6.length c38, .int .i64 0]) in_21 rfl rfl rfl ?_
  have hc43 := shown_ (NodesD.of_row (O41.row 0 rfl)) (fun k hk => (World.ownsRow.lt (O41.row 0 rfl) k hk).2) (tab.below (Nat.le_refl _) O41.old) 0
  rw [s6] at hc43
  refine hc43.mono ?_
  rintro _ w44 ⟨rfl, hb45⟩
  have O46 : Own Z0 W w44 [.row (.slice A37 T6.length c38) 38 3 T6.length (ncells T6), .blk g31 3 #[.int .i64 3, .int .i64 1, .int .i64 2], .row (.slice A21 T7.length c22) 38 3 T7.length (ncells T7), .row (.slice A11 T6.length c12) 38 3 T6.length (ncells T6), .row (.slice (some ⟨g9, 0, none⟩) 5 c4) 38 3 5 (ncells T5)] := O41.below hb45
  refine ⟨_, rfl, ?_⟩
  refine wl_val (v := .bool true) (fun ρ e => ex_eqS (a := ⟨#[40, 51, 32, 40, 49, 32, 50, 41, 41]⟩) (b := ⟨#[40, 51, 32, 40, 49, 32, 50, 41, 41]⟩) (e _ _ rfl) (e _ _ rfl) (by rw [decide_eq_true rfl])) rfl rfl ?_
  refine wl_val (v := .bool true) (fun ρ e => ex_pick1 (e _ _ rfl) (e _ _ rfl)) rfl rfl ?_
  refine wl_val (v := .bool true) (fun ρ e => ex_move (e _ _ rfl)) rfl rfl ?_
  refine wl_val (v := .slice (some ⟨g9, 0, none⟩) 5 c4) (fun ρ e => ex_move (e _ _ rfl)) rfl rfl ?_
  refine wl_call (args := [.slice (some ⟨g9, 0, none⟩) 5 c4, .int .i64 0, .int .i64 3]) in_15 rfl rfl rfl ?_
  have hc47 := meet_ (NodesD.of_row (O46.row 4 rfl)) (fun k hk => (World.ownsRow.lt (O46.row 4 rfl) k hk).2) 0 3
  rw [w9] at hc47
  refine hc47.mono ?_
  rintro _ w48 ⟨rfl, hb49⟩
  have O50 : Own Z0 W w48 [.row (.slice A37 T6.length c38) 38 3 T6.length (ncells T6), .blk g31 3 #[.int .i64 3, .int .i64 1, .int .i64 2], .row (.slice A21 T7.length c22) 38 3 T7.length (ncells T7), .row (.slice A11 T6.length c12) 38 3 T6.length (ncells T6), .row (.slice (some ⟨g9, 0, none⟩) 5 c4) 38 3 5 (ncells T5)] := O46.below hb49
  refine ⟨_, rfl, ?_⟩
  refine wl_val (v := .bool true) (fun ρ e => ex_cmp (u := 4) (v := 4) (e _ _ rfl) (e _ _ rfl) (eql1 (by omega))) rfl rfl ?_
  refine wl_val (v := .bool true) (fun ρ e => ex_pick1 (e _ _ rfl) (e _ _ rfl)) rfl rfl ?_
  refine wl_val (v := .bool true) (fun ρ e => ex_assign (e _ _ rfl)) rfl rfl ?_
  refine wl_nil ?_
  refine xw_next K10 ?_
  refine cw_ret ?_
  refine xw_ret (v := .bool true) (fun T hT => res1 rfl T _ (hT 0 _ rfl)) ?_
  exact ⟨rfl, O50.old⟩

end Go.Proofs.YtpeoodkepjhhiaaDoor
namespace Go.Proofs.YtpeoodkepjhhiaaDoor
open Go.ChangeShapes Go.WideShapes Go.ChangeAt Go.RowKit

end Go.Proofs.YtpeoodkepjhhiaaDoor
namespace Go.Proofs.YtpeoodkepjhhiaaDoor
open Go Go.RowKit Go.ChangeShapes Go.WideShapes Go.Deep Go.Joins

theorem laidOut : laidOutB Tryd.prog = true := by kernel_rfl

section
variable {H : Type} {enc : TypeId × Value → H} {W : World} {held : Bool}

theorem block_lt {a : Addr} {v : Value} (h : W.cell? a = some v) : a.block < W.heap.size := by
  unfold World.cell? at h
  split at h
  · rename_i he
    exact (Array.getElem?_eq_some_iff.1 he).1
  · cases h
theorem addr_eta {a : Addr} {v : Value} (h : W.cell? a = some v) : a = ⟨a.block, a.off, none⟩ := by
  have := World.cell?_spot h
  cases a; simp_all
theorem addr_add (b o j : Nat) : (⟨b, o, none⟩ : Addr).add j = ⟨b, o + j, none⟩ := by unfold Addr.add; split <;> simp_all

end
end Go.Proofs.YtpeoodkepjhhiaaDoor
namespace Go.Proofs.YtpeoodkepjhhiaaDoor
open Go Go.ChangeShapes Go.WideShapes Go.ChangeAt Go.RowKit

theorem carryAll {H : Type} {enc : TypeId × Value → H} {W W' : World} (hb : Below W.heap.size W W') : ∀ {ts : List TypeId} {vs : List Value} {ds : List (DataW H)} {ps : List MemPlace},
    DataW.TrodAll enc Tryd.prog W 0 (fun _ => true) true ts vs ds ps → (∀ x ∈ ps, x.block < W.heap.size) → ts.all (fun t => Tryd.prog.readableRec t && decide (t < Tryd.prog.types.size)) = true →
    DataW.TrodAll enc Tryd.prog W' 0 (fun b => decide (b < W.heap.size)) true ts vs ds ps := by
  intro ts
  induction ts with
  | nil =>
    intro vs ds ps h _ _
    obtain ⟨rfl, rfl, rfl⟩ := trodAll_nil h
    exact trodAll_mk0
  | cons t ts ih =>
    intro vs ds ps h hlt hts
    obtain ⟨v0, vs0, d0, ds0, p0, q0, rfl, rfl, rfl, h0, r0⟩ := trodAll_cons h
    simp only [List.all_cons, Bool.and_eq_true, decide_eq_true_eq] at hts
    exact trodAll_cons_mk (Below.trod laidOut hts.1.1 hts.1.2 h0 hb (fun x hx => hlt x (List.mem_append_left _ hx))) (ih r0 (fun x hx => hlt x (List.mem_append_right _ hx)) hts.2)

theorem law_post2 {H : Type} {enc : TypeId × Value → H} {f : Func} {s : ChangeSpec} {W W' : World} {args : Array Value} {v : Value} {ds : List (DataW H)} {p : List MemPlace} (hvars : s.vars = [])
    (hW : DataW.Whole enc Tryd.prog f.params.toList s.vars false W args.toList ds [] (p ++ []))
    (hA : DataW.TrodAll enc Tryd.prog W 0 (fun _ => true) true f.params.toList args.toList ds p)
    (hres : DataW.TrodAll enc Tryd.prog W' W.heap.size (fun _ => false) false f.resultTypes.toList (v.resultList f.resultTypes.size) (s.fn H (ds ++ [])).results [])
    (hfa : (s.fn H (ds ++ [])).args = ds) (hfv : (s.fn H (ds ++ [])).vars = []) (hts : f.params.toList.all (fun t => Tryd.prog.readableRec t && decide (t < Tryd.prog.types.size)) = true) (hb : Below W.heap.size W W') : s.post enc Tryd.prog f false true false false W args v W' := by
  have hlt : ∀ p' ∈ p ++ [], p'.block < W.heap.size := fun p' hp => hW.lt p' hp
  have hlt' : ∀ x ∈ p, x.block < W.heap.size := fun x hx => hlt x (by simpa using hx)
  have h2 := carryAll hb hA hlt' hts
  refine ⟨ds, [], p ++ [], [], p, [], hW, hres, ?_, ?_, World.keptBut_mono (fun p' hp => ⟨hp, .inr (.inl (by simpa using hp))⟩) (hb.frame (· ∈ p ++ [])), fun h => by cases h⟩
  · rw [hfa]; exact h2
  · rw [hfv, hvars]; rfl
end Go.Proofs.YtpeoodkepjhhiaaDoor
namespace Go.Proofs.YtpeoodkepjhhiaaDoor
open Go Go.ChangeShapes Go.WideShapes Go.ChangeAt Go.RowKit Go.Deep Go.Joins
section
variable {H : Type} {enc : TypeId × Value → H} {W : World} {held : Bool}
set_option maxRecDepth 100000 in
theorem slice_cells {r : Reach} {b0 t e : Nat} {v : Value} (ht : Tryd.prog.underlying t = some (.slice e)) (h : Value.okWide Tryd.prog W r b0 t v) : v.cells = #[v] := by
  obtain ⟨a, len, cap, rfl⟩ := okWide_slice ht h
  rfl
end
def laidL : List (String × DataW Unit) := Rows.vtreeMeetsRow.laid
theorem tab_laid {W : World} (h : laidMetH Tryd.prog laidL W) : Tab W := by
  rw [MakeChecks.laidMetH_plain _ _ _ (by kernel_rfl)] at h
  obtain ⟨g, t, cs, fuel, p, hg, ht, hv, hd⟩ := Lib.laidMet.reads (n := tabN) (d := Rows.laid_internal_strconv_uint64pow10) h (List.Mem.tail _ (List.Mem.tail _ (List.Mem.head _)))
  have h0 : Tryd.prog.globalNamed tabN = some 0 := by kernel_rfl
  obtain rfl := Option.some.inj (h0.symm.trans hg)
  have h1 : (Tryd.prog.globals[0]?).map (·.type) = some 108 := by kernel_rfl
  obtain rfl := Option.some.inj (h1.symm.trans ht)
  have hc := Lib.cells_of_tab (k := .u64) (zs := Lib.pow10Tab) Tryd.underlying108 Tryd.underlying55 (by kernel_rfl) (by kernel_rfl) hd
  unfold Tab Lib.TabIs
  rw [hv, ← hc]
end Go.Proofs.YtpeoodkepjhhiaaDoor
namespace Go.Proofs.YtpeoodkepjhhiaaDoor

/-- A tree whose leaves are distinct variables. -/
def GoodT (T : Tr) : Prop := T.leaves.Nodup ∧ ∀ v ∈ T.leaves, 1 ≤ v ∧ v ≤ 128
theorem Tr.size_leaves : ∀ T : Tr, T.size + 1 = 2 * T.leaves.length
  | .leaf _ => rfl
  | .node a b => by
    have h1 := a.size_leaves
    have h2 := b.size_leaves
    simp only [Tr.size, Tr.leaves, List.length_append]
    omega
theorem GoodT.few {T : Tr} (h : GoodT T) : T.leaves.length ≤ 128 := by
  have h3 : (T.leaves.map fun v => v - 1).Nodup := by
    rw [List.nodup_iff_pairwise_ne, List.pairwise_map]
    exact (List.nodup_iff_pairwise_ne.1 h.1).imp (fun h e => h (by omega))
  have := range_len (n := 128) h3 (fun x hx => by
    obtain ⟨v, hv, rfl⟩ := List.mem_map.1 hx
    have := h.2 v hv
    omega)
  simpa using this
theorem GoodT.small {T : Tr} (h : GoodT T) : T.size ≤ 255 := by
  have h1 := T.size_leaves
  have h2 := h.few
  omega
theorem GoodT.left {a b : Tr} (h : GoodT (.node a b)) : GoodT a := ⟨(List.nodup_append.1 h.1).1, fun v hv => h.2 v (List.mem_append_left _ hv)⟩
theorem GoodT.right {a b : Tr} (h : GoodT (.node a b)) : GoodT b := ⟨(List.nodup_append.1 h.1).2.1, fun v hv => h.2 v (List.mem_append_right _ hv)⟩
theorem GoodT.leaf_in {v : Int} (h : GoodT (.leaf v)) : 1 ≤ v ∧ v ≤ 128 := h.2 v (by simp [Tr.leaves])
/-- The nodes of T lie in ts from n on. -/
def Lies (ts : List VN) (n : Nat) (T : Tr) : Prop := ∀ (i : Nat) (x : VN), (post T n)[i]? = some x → ts[n + i]? = some x
section
variable {ts : List VN} {n : Nat} {a b : Tr} {v : Int}
theorem Lies.all (T : Tr) : Lies (post T 0) 0 T := fun i x h => by rw [Nat.zero_add]; exact h
theorem Lies.one (h : Lies ts n (.leaf v)) : ts[n]? = some ⟨-1, -1, v⟩ := h 0 _ rfl
theorem Lies.left (h : Lies ts n (.node a b)) : Lies ts n a := fun i x hi => by
  refine h i x ?_
  have hl := (List.getElem?_eq_some_iff.1 hi).1
  simp only [post]
  rw [List.getElem?_append_left hl]
  exact hi
theorem Lies.right (h : Lies ts n (.node a b)) : Lies ts (n + a.size) b := fun i x hi => by
  have hl := (List.getElem?_eq_some_iff.1 hi).1
  have := h (a.size + i) x (by
    simp only [post]
    rw [List.getElem?_append_right (by rw [post_len]; omega), post_len, List.getElem?_append_left (by omega), show a.size + i - a.size = i by omega]
    exact hi)
  rw [Nat.add_assoc]
  exact this
theorem Lies.root (h : Lies ts n (.node a b)) : ts[n + a.size + b.size]? = some ⟨((n + a.size - 1 : Nat) : Int), ((n + a.size + b.size - 1 : Nat) : Int), 0⟩ := by
  have := h (a.size + b.size) ⟨((n + a.size - 1 : Nat) : Int), ((n + a.size + b.size - 1 : Nat) : Int), 0⟩ (by
    simp only [post]
    rw [List.getElem?_append_right (by rw [post_len]; omega), post_len, List.getElem?_append_right (by rw [post_len]; omega), post_len, show a.size + b.size - a.size - b.size = 0 by omega]
    rfl)
  rw [show n + (a.size + b.size) = n + a.size + b.size by omega] at this
  exact this
theorem Lies.len {T : Tr} (h : Lies ts n T) : n + T.size ≤ ts.length := by
  have hp := T.size_pos
  have hl : T.size - 1 < (post T n).length := by rw [post_len]; omega
  have := h (T.size - 1) _ (List.getElem?_eq_getElem hl)
  have := (List.getElem?_eq_some_iff.1 this).1
  omega
end
/-- Every node of a postorder: a leaf, or an inner node with its two children's numbers. -/
theorem post_kind : ∀ (T : Tr) (n i : Nat) (x : VN), (∀ v ∈ T.leaves, 1 ≤ v ∧ v ≤ 128) → (post T n)[i]? = some x → nodeB (n + i) x = true
  | .leaf v, n, i, x, h, hx => by
    obtain ⟨h1, h2⟩ := h v (by simp [Tr.leaves])
    have hi : i = 0 := by
      have := (List.getElem?_eq_some_iff.1 hx).1
      simpa [post] using this
    subst hi
    simp [post] at hx
    subst hx
    simp [nodeB, lf_leaf h1 h2]
  | .node a b, n, i, x, h, hx => by
    have ha := a.size_pos
    have hb := b.size_pos
    simp only [post] at hx
    by_cases h1 : i < a.size
    · rw [List.getElem?_append_left (by rw [post_len]; exact h1)] at hx
      exact post_kind a n i x (fun v hv => h v (List.mem_append_left _ hv)) hx
    · rw [List.getElem?_append_right (by rw [post_len]; omega), post_len] at hx
      by_cases h2 : i - a.size < b.size
      · rw [List.getElem?_append_left (by rw [post_len]; exact h2)] at hx
        have := post_kind b (n + a.size) (i - a.size) x (fun v hv => h v (List.mem_append_right _ hv)) hx
        rwa [show n + a.size + (i - a.size) = n + i by omega] at this
      · rw [List.getElem?_append_right (by rw [post_len]; omega), post_len] at hx
        have hx0 := hx
        have h3 : i - a.size - b.size = 0 := by
          have := (List.getElem?_eq_some_iff.1 hx).1
          simpa using this
        rw [h3] at hx
        simp at hx
        subst hx
        simp only [nodeB, Bool.or_eq_true, Bool.and_eq_true, decide_eq_true_eq]
        right
        have h4 := (List.getElem?_eq_some_iff.1 hx0).1
        simp only [List.length_cons, List.length_nil] at h4
        refine ⟨⟨⟨⟨trivial, ?_⟩, ?_⟩, ?_⟩, ?_⟩ <;> omega
theorem post_vars : ∀ (T : Tr) (n : Nat), (∀ v ∈ T.leaves, 1 ≤ v ∧ v ≤ 128) → varsL (post T n) = T.leaves
  | .leaf v, n, h => by
    obtain ⟨h1, h2⟩ := h v (by simp [Tr.leaves])
    simp [post, varsL, varOf, lf_leaf h1 h2, Tr.leaves]
  | .node a b, n, h => by
    have h1 := post_vars a n (fun v hv => h v (List.mem_append_left _ hv))
    have h2 := post_vars b (n + a.size) (fun v hv => h v (List.mem_append_right _ hv))
    unfold varsL at h1 h2 ⊢
    simp only [post, List.flatMap_append, h1, h2, Tr.leaves]
    simp [varOf, lf_inner]
theorem post_kids : ∀ (T : Tr) (n : Nat), (∀ v ∈ T.leaves, 1 ≤ v ∧ v ≤ 128) → (kidsL (post T n)).Perm ((List.range' n (T.size - 1)).map fun k : Nat => (k : Int))
  | .leaf v, n, h => by
    obtain ⟨h1, h2⟩ := h v (by simp [Tr.leaves])
    simp [post, kidsL, kidsOf, lf_leaf h1 h2, Tr.size]
  | .node a b, n, h => by
    have h1 := post_kids a n (fun v hv => h v (List.mem_append_left _ hv))
    have h2 := post_kids b (n + a.size) (fun v hv => h v (List.mem_append_right _ hv))
    have ha := a.size_pos
    have hb := b.size_pos
    unfold kidsL at h1 h2 ⊢
    simp only [post, List.flatMap_append, Tr.size]
    have e : (List.range' n (a.size + b.size + 1 - 1)) = (List.range' n (a.size - 1) ++ [n + a.size - 1]) ++ (List.range' (n + a.size) (b.size - 1) ++ [n + a.size + b.size - 1]) := by
      have q1 : List.range' n (a.size - 1) ++ [n + a.size - 1] = List.range' n a.size := by
        obtain ⟨m, hm⟩ : ∃ m, a.size = m + 1 := ⟨a.size - 1, by omega⟩
        rw [hm, List.range'_concat]
        simp
      have q2 : List.range' (n + a.size) (b.size - 1) ++ [n + a.size + b.size - 1] = List.range' (n + a.size) b.size := by
        obtain ⟨m, hm⟩ : ∃ m, b.size = m + 1 := ⟨b.size - 1, by omega⟩
        rw [hm, List.range'_concat]
        simp
      rw [q1, q2, List.range'_append_1]
      simp
    rw [e]
    simp only [List.map_append, List.map_cons, List.map_nil]
    have k3 : List.flatMap kidsOf [(⟨((n + a.size - 1 : Nat) : Int), ((n + a.size + b.size - 1 : Nat) : Int), 0⟩ : VN)] = [((n + a.size - 1 : Nat) : Int), ((n + a.size + b.size - 1 : Nat) : Int)] := by simp [kidsOf, lf_inner]
    rw [k3]
    refine (h1.append (h2.append_right _)).trans ?_
    have key : ∀ (P Q : List Int) (u w : Int), (P ++ (Q ++ [u, w])).Perm ((P ++ [u]) ++ (Q ++ [w])) := fun P Q u w => by
      rw [List.append_assoc]
      refine List.Perm.append_left P ?_
      have : (Q ++ [u, w]).Perm ([u] ++ Q ++ [w]) := by
        rw [show Q ++ [u, w] = Q ++ [u] ++ [w] by simp]
        exact List.Perm.append_right [w] List.perm_append_comm
      rw [← List.append_assoc]
      exact this
    exact key _ _ _ _
theorem post_ok {T : Tr} (h : GoodT T) : okT (post T 0) = true := by
  have hs := h.small
  have hp := T.size_pos
  have hk := post_kids T 0 h.2
  refine okT_parts.2 ⟨by rw [post_len]; exact hp, by rw [post_len]; exact hs, ?_, ?_⟩
  · unfold preB
    simp only [Bool.and_eq_true, decide_eq_true_eq]
    refine ⟨⟨(nodesB_iff _).2 fun i x hx => ?_, by rw [post_vars T 0 h.2]; exact h.1⟩, hk.nodup_iff.2 ?_⟩
    · have := post_kind T 0 i x h.2 hx
      rwa [Nat.zero_add] at this
    · rw [← List.range_eq_range']
      exact nodup_castrange _
  · unfold coverB
    simp only [List.all_eq_true, decide_eq_true_eq, List.mem_range, post_len]
    intro k hk2
    refine hk.mem_iff.2 (List.mem_map.2 ⟨k, ?_, rfl⟩)
    rw [List.mem_range'_1]
    omega
theorem Lies.at_ {ts : List VN} : ∀ (T : Tr) (n : Nat), (∀ v ∈ T.leaves, 1 ≤ v ∧ v ≤ 128) → Lies ts n T → ∃ vs, At ts idF (n + T.size - 1) T vs
  | .leaf v, n, h, hs => by
    obtain ⟨h1, h2⟩ := h v (by simp [Tr.leaves])
    exact ⟨_, .leaf (by simpa [Tr.size] using hs.one) h1 h2⟩
  | .node a b, n, h, hs => by
    obtain ⟨va, hA⟩ := Lies.at_ a n (fun v hv => h v (List.mem_append_left _ hv)) hs.left
    obtain ⟨vb, hB⟩ := Lies.at_ b (n + a.size) (fun v hv => h v (List.mem_append_right _ hv)) hs.right
    have hr := hs.root
    refine ⟨_, At.node (i := n + (Tr.node a b).size - 1) ?_ rfl hA hB⟩
    rw [show n + (Tr.node a b).size - 1 = n + a.size + b.size by simp only [Tr.size]; omega]
    exact hr
theorem trF_sub {ts : List VN} (hV : Val ts) {T : Tr} {n m : Nat} (h : ∀ v ∈ T.leaves, 1 ≤ v ∧ v ≤ 128) (hs : Lies ts n T) (hm : n + T.size - 1 < m) : trF ts m (n + T.size - 1) = T := by
  obtain ⟨vs, hA⟩ := hs.at_ T n h
  exact hA.tr hV m hm
theorem tree_post {T : Tr} (h : GoodT T) : treeOf (post T 0) = T := by
  have hV := okT_val (post_ok h)
  have hp := T.size_pos
  unfold treeOf
  have := trF_sub hV h.2 (Lies.all T) (m := (post T 0).length) (by rw [post_len]; omega)
  rw [Nat.zero_add] at this
  rw [post_len] at this ⊢
  exact this
theorem print_post {T : Tr} (h : GoodT T) : printOf (post T 0) = textT T := by
  unfold printOf
  rw [post_ok h, tree_post h]
  rfl
/-! ### By position -/
def turn (kind : Nat) (a b : Tr) : Option Tr :=
  if kind = 1 then (match a with
    | .node p q => some (.node p (.node q b))
    | .leaf _ => none)
  else if kind = 2 then (match b with
    | .node p q => some (.node (.node a p) q)
    | .leaf _ => none)
  else some (.node b a)
/-- The tree with node i turned; its first node has the number n. -/
def tAt (kind : Nat) : Tr → Nat → Nat → Option Tr
  | .leaf _, _, _ => none
  | .node a b, n, i => if i = n + a.size + b.size then turn kind a b else if i < n + a.size then (tAt kind a n i).map (fun c => .node c b) else (tAt kind b (n + a.size) i).map (fun c => .node a c)
/-- The opposite turn. -/
def opp (kind : Nat) : Nat := if kind = 1 then 2 else if kind = 2 then 1 else kind
/-! ### What the program makes of such a list -/
end Go.Proofs.YtpeoodkepjhhiaaDoor
namespace Go.Proofs.YtpeoodkepjhhiaaDoor
open Go Go.RowKit
/-- A slice of bytes, in the blocks of D. -/
def BytesD (D : Nat → Prop) (w : World) (v : Value) (bs : List Nat) : Prop :=
  ∃ A c, v = .slice A bs.length c ∧ bs.length ≤ c ∧ c ≤ maxLen ∧ (0 < bs.length → ∃ b o, D b ∧ A = some ⟨b, o, none⟩ ∧ ∀ (i x : Nat), bs[i]? = some x → w.cell? ⟨b, o + i, none⟩ = some (.int .u8 (x : Int)) ∧ x ≤ 255)
section
variable {D D' : Nat → Prop} {w w' : World} {v : Value} {bs : List Nat}
theorem BytesD.move (h : BytesD D w v bs) (hk : ∀ k, D k → w'.heap[k]? = w.heap[k]?) : BytesD D w' v bs := by
  obtain ⟨A, c, h1, h2, h3, h4⟩ := h
  refine ⟨A, c, h1, h2, h3, fun hp => ?_⟩
  obtain ⟨b, o, hb, hA, hc⟩ := h4 hp
  exact ⟨b, o, hb, hA, fun i x hx => ⟨(cell_move (hk b hb)).trans (hc i x hx).1, (hc i x hx).2⟩⟩
theorem BytesD.slice (h : BytesD D w v bs) : ∃ A c, v = .slice A bs.length c := by
  obtain ⟨A, c', hv, _⟩ := h
  exact ⟨A, c', hv⟩
theorem BytesD.form (h : BytesD D w v bs) (hp : 0 < bs.length) : ∃ b o c, v = .slice (some ⟨b, o, none⟩) bs.length c := by
  obtain ⟨A, c, h1, h2, h3, h4⟩ := h
  obtain ⟨b, o, hb, hA, hc⟩ := h4 hp
  exact ⟨b, o, c, by rw [h1, hA]⟩
theorem BytesD.cell {b o n c : Nat} (h : BytesD D w (.slice (some ⟨b, o, none⟩) n c) bs) {i x : Nat} (hx : bs[i]? = some x) : w.cell? ⟨b, o + i, none⟩ = some (.int .u8 (x : Int)) ∧ x ≤ 255 := by
  obtain ⟨A, c, h1, h2, h3, h4⟩ := h
  obtain ⟨b', o', hb, hA, hc⟩ := h4 (by have := (List.getElem?_eq_some_iff.1 hx).1; omega)
  injection h1 with h1 _ _
  subst hA
  injection h1 with h1
  injection h1 with h1 h5
  subst h1 h5
  exact hc i x hx
def bytesE (D : Nat → Prop) (v : Value) (bs : List Nat) : En := .ro D (fun w => BytesD D w v bs)
theorem bytesE_holds (h : BytesD D w v bs) (hD : ∀ k, D k → k < w.heap.size) : (bytesE D v bs).holds w := ⟨h, hD, fun _ _ _ hk h => h.move hk⟩
end
section
variable {ρ : Operand → Value} {d : Option Tmp} {x y : Operand} {t T1 : TypeId} {pos : String} {aft : Array Edge} {gd : Option (Nat × Bool)} {w : World}
theorem ex_conv8 {a : Nat} (hx : ρ x = .int .u8 (a : Int)) (h : a ≤ 255) : (execOp ρ ⟨d, .convert 5 3 x, t, pos, aft, gd⟩).run Tryd.prog w = .ok (.value (.int .i64 (a : Int))) w := by
  have e : IntKind.i64.wrap (a : Int) = (a : Int) := wrap_in (by omega) (by omega)
  simp [go_sem, hx, e]
theorem ex_remg {a b q : Nat} (hx : ρ x = .int .i64 (a : Int)) (hy : ρ y = .int .i64 (b : Int)) (h : 0 < b) (hq : a % b = q) : (execOp ρ ⟨d, .binOp .rem 3 x y T1, t, pos, aft, gd⟩).run Tryd.prog w = .ok (.value (.int .i64 ((q : Nat) : Int))) w := by
  subst hq
  have e2 : (a : Int).tmod (b : Int) = ((a % b : Nat) : Int) := by simp [Int.tmod_eq_emod_of_nonneg]
  have hb : ¬ b = 0 := by omega
  simp [go_sem, hx, hy, e2, hb]
theorem ex_rem8 {a b q : Nat} (hx : ρ x = .int .u8 (a : Int)) (hy : ρ y = .int .u8 (b : Int)) (h : 0 < b) (hq : a % b = q) : (execOp ρ ⟨d, .binOp .rem 5 x y T1, t, pos, aft, gd⟩).run Tryd.prog w = .ok (.value (.int .u8 ((q : Nat) : Int))) w := by
  subst hq
  have e2 : (a : Int).tmod (b : Int) = ((a % b : Nat) : Int) := by simp [Int.tmod_eq_emod_of_nonneg]
  have hb : ¬ b = 0 := by omega
  simp [go_sem, hx, hy, e2, hb]
end
theorem next_ {Z : Bool → Nat → Prop} {w0 W : World} {tb lb : Nat} {D : Nat → Prop} {V : Value} {bs : List Nat} {a : Nat} (O0 : Own Z w0 W [.blk tb 3 #[.int .i64 (a : Int)], .blk lb 32 #[V], .ro D (fun w => BytesD D w V bs)]) (ha : a ≤ 100000) (hbs : bs.length ≤ 100000) :
    Calls Tryd.prog 51 #[.pointer (some ⟨tb, 0, none⟩), .pointer (some ⟨lb, 0, none⟩)] W fun e w' => ∃ r : Nat, r ≤ a + 256 ∧ e = .returned (.int .i64 (r : Int)) ∧ Own Z w0 w' [.blk tb 3 #[.int .i64 ((a + 1 : Nat) : Int)], .blk lb 32 #[V], .ro D (fun w => BytesD D w V bs)] := by
  have hB : BytesD D W V bs := O0.ro 2 rfl
  rcases Nat.eq_zero_or_pos bs.length with h0 | h0
  · obtain ⟨A, cl, rfl⟩ := hB.slice
    refine sx_enter (args := [.pointer (some ⟨tb, 0, none⟩), .pointer (some ⟨lb, 0, none⟩)]) Tryd.func51 rfl rfl (by simp) ?_
    refine cw_seq (fun FK1 K1 => ?_)
    refine cw_region ?_
    refine wl_val (v := .int .i64 0) (fun ρ e => ex_assign (e _ _ rfl)) rfl rfl ?_
    refine wl_nil ?_
    refine xw_next K1 ?_
    refine cw_seq (fun FK2 K2 => ?_)
    refine cw_region ?_
    refine wl_val (v := .int .i64 (a : Int)) (fun ρ e => ex_load1 ty3 (e _ _ rfl) (O0.cell 0 0 rfl rfl)) rfl rfl ?_
    refine wl_val (v := .int .i64 ((a + 1 : Nat) : Int)) (fun ρ e => ex_arith (k := .i64) (u := (a : Int)) (v := 1) (e _ _ rfl) (e _ _ rfl) (congrArg some ((congrArg _ (show _ = ((a + 1 : Nat) : Int) by omega)).trans (wrap_in (by omega) (by omega))))) rfl rfl ?_
    obtain ⟨w3, r4, O5, hs6⟩ := own_put (o := 0) (n := 1) O0 ty3 (.int .i64 ((a + 1 : Nat) : Int)) [.int .i64 ((a + 1 : Nat) : Int)] (cs' := #[.int .i64 ((a + 1 : Nat) : Int)]) rfl rfl rfl (Nat.le_of_ble_eq_true rfl) rfl
    refine wl_none (fun ρ e => r4 ρ _ _ _ _ _ _ (e _ _ rfl) (e _ _ rfl)) rfl ?_
    refine wl_nil ?_
    refine xw_next K2 ?_
    refine cw_seq (fun FK7 K7 => ?_)
    refine cw_seq (fun FK8 K8 => ?_)
    refine cw_region ?_
    refine wl_val (v := .slice A bs.length cl) (fun ρ e => ex_load1 ty32 (e _ _ rfl) (O5.cell 1 0 rfl rfl)) rfl rfl ?_
    refine wl_val (v := .int .i64 ((bs.length : Nat) : Int)) (fun ρ e => ex_len el32 (e _ _ rfl)) rfl rfl ?_
    refine wl_val (v := .bool true) (fun ρ e => ex_cmp (u := ((bs.length : Nat) : Int)) (v := 0) (e _ _ rfl) (e _ _ rfl) (eql1 (by omega))) rfl rfl ?_
    refine wl_nil ?_
    refine xw_next K8 ?_
    refine cw_true rfl ?_
    refine cw_seq (fun FK9 K9 => ?_)
    refine cw_region ?_
    refine wl_val (v := .int .i64 ((a + 1 : Nat) : Int)) (fun ρ e => ex_load1 ty3 (e _ _ rfl) (O5.cell 0 0 rfl rfl)) rfl rfl ?_
    refine wl_val (v := .int .i64 ((a + 1 : Nat) : Int)) (fun ρ e => ex_assign (e _ _ rfl)) rfl rfl ?_
    refine wl_nil ?_
    refine xw_next K9 ?_
    refine cw_ret ?_
    refine xw_past (by intro h; cases h) ?_
    refine xw_ret (v := .int .i64 ((a + 1 : Nat) : Int)) (fun T hT => res1 rfl T _ (hT 2 _ rfl)) ?_
    exact ⟨a + 1, by omega, rfl, O5⟩
  · obtain ⟨bl, ol, cl, rfl⟩ := hB.form h0
    refine sx_enter (args := [.pointer (some ⟨tb, 0, none⟩), .pointer (some ⟨lb, 0, none⟩)]) Tryd.func51 rfl rfl (by simp) ?_
    refine cw_seq (fun FK1 K1 => ?_)
    refine cw_region ?_
    refine wl_val (v := .int .i64 0) (fun ρ e => ex_assign (e _ _ rfl)) rfl rfl ?_
    refine wl_nil ?_
    refine xw_next K1 ?_
    refine cw_seq (fun FK2 K2 => ?_)
    refine cw_region ?_
    refine wl_val (v := .int .i64 (a : Int)) (fun ρ e => ex_load1 ty3 (e _ _ rfl) (O0.cell 0 0 rfl rfl)) rfl rfl ?_
    refine wl_val (v := .int .i64 ((a + 1 : Nat) : Int)) (fun ρ e => ex_arith (k := .i64) (u := (a : Int)) (v := 1) (e _ _ rfl) (e _ _ rfl) (congrArg some ((congrArg _ (show _ = ((a + 1 : Nat) : Int) by omega)).trans (wrap_in (by omega) (by omega))))) rfl rfl ?_
    obtain ⟨w3, r4, O5, hs6⟩ := own_put (o := 0) (n := 1) O0 ty3 (.int .i64 ((a + 1 : Nat) : Int)) [.int .i64 ((a + 1 : Nat) : Int)] (cs' := #[.int .i64 ((a + 1 : Nat) : Int)]) rfl rfl rfl (Nat.le_of_ble_eq_true rfl) rfl
    refine wl_none (fun ρ e => r4 ρ _ _ _ _ _ _ (e _ _ rfl) (e _ _ rfl)) rfl ?_
    refine wl_nil ?_
    refine xw_next K2 ?_
    refine cw_seq (fun FK7 K7 => ?_)
    refine cw_seq (fun FK8 K8 => ?_)
    refine cw_region ?_
    refine wl_val (v := .slice (some ⟨bl, ol, none⟩) bs.length cl) (fun ρ e => ex_load1 ty32 (e _ _ rfl) (O5.cell 1 0 rfl rfl)) rfl rfl ?_
    refine wl_val (v := .int .i64 ((bs.length : Nat) : Int)) (fun ρ e => ex_len el32 (e _ _ rfl)) rfl rfl ?_
    refine wl_val (v := .bool false) (fun ρ e => ex_cmp (u := ((bs.length : Nat) : Int)) (v := 0) (e _ _ rfl) (e _ _ rfl) (eql0 (by omega))) rfl rfl ?_
    refine wl_nil ?_
    refine xw_next K8 ?_
    refine cw_false rfl ?_
    refine cw_skip ?_
    refine xw_next K7 ?_
    refine cw_seq (fun FK9 K9 => ?_)
    refine cw_drawn (fun X => Own Z w0 X [.blk tb 3 #[.int .i64 ((a + 1 : Nat) : Int)], .blk lb 32 #[.slice (some ⟨bl, ol, none⟩) bs.length cl], .ro D (fun w => BytesD D w (.slice (some ⟨bl, ol, none⟩) bs.length cl) bs)]) 10 [(0, 0), (1, 0), (2, 0), (3, 1), (4, 1), (5, 1), (6, 0), (7, 1), (8, 0), (9, 1), (10, 3)] (by kernel_rfl) (by kernel_rfl) (PQ.then_ PQ.body) (O5).drew ?_
    have O10 : Own Z w0 w3.drew [.blk tb 3 #[.int .i64 ((a + 1 : Nat) : Int)], .blk lb 32 #[.slice (some ⟨bl, ol, none⟩) bs.length cl], .ro D (fun w => BytesD D w (.slice (some ⟨bl, ol, none⟩) bs.length cl) bs)] := O5.drew
    refine wt0 (v := .slice (some ⟨bl, ol, none⟩) bs.length cl) rfl (fun ρ e W hW => ex_load1 ty32 (e _ _ rfl) (hW.cell 1 0 rfl rfl)) rfl rfl ?_
    refine wt0 (v := .int .i64 ((a + 1 : Nat) : Int)) rfl (fun ρ e W hW => ex_load1 ty3 (e _ _ rfl) (hW.cell 0 0 rfl rfl)) rfl rfl ?_
    refine wt0 (v := .slice (some ⟨bl, ol, none⟩) bs.length cl) rfl (fun ρ e W hW => ex_load1 ty32 (e _ _ rfl) (hW.cell 1 0 rfl rfl)) rfl rfl ?_
    refine wt1 (v := .int .i64 ((bs.length : Nat) : Int)) rfl (fun ρ e W => ex_len el32 (e _ _ rfl)) rfl rfl ?_
    obtain ⟨k11, hk11, lk11⟩ : ∃ q, (a + 1) % bs.length = q ∧ q < bs.length := ⟨_, rfl, Nat.mod_lt _ (by omega)⟩
    refine wt1 (v := .int .i64 (k11 : Int)) rfl (fun ρ e W => ex_remg (a := a + 1) (b := bs.length) (e _ _ rfl) (e _ _ rfl) (by omega) hk11) rfl rfl ?_
    obtain ⟨bv, hbv⟩ : ∃ v, bs[k11]? = some v := ⟨bs[k11], List.getElem?_eq_getElem lk11⟩
    have h255 := (BytesD.cell ((O10.ro 2 rfl) : BytesD _ _ (.slice (some ⟨bl, ol, none⟩) bs.length cl) bs) hbv).2
    refine wt1 (v := .pointer (some ⟨bl, ol + k11, none⟩)) rfl (fun ρ e W => ex_idx (q := ol + k11) (i := k11) el32 (e _ _ rfl) (e _ _ rfl) lk11 (by omega)) rfl rfl ?_
    refine wt0 (v := .int .u8 (bv : Int)) rfl (fun ρ e W hW => ex_load1 ty5 (e _ _ rfl) (BytesD.cell ((hW.ro 2 rfl) : BytesD _ _ (.slice (some ⟨bl, ol, none⟩) bs.length cl) bs) hbv).1) rfl rfl ?_
    refine wt1 (v := .int .i64 (bv : Int)) rfl (fun ρ e W => ex_conv8 (e _ _ rfl) h255) rfl rfl ?_
    refine wt0 (v := .int .i64 ((a + 1 : Nat) : Int)) rfl (fun ρ e W hW => ex_load1 ty3 (e _ _ rfl) (hW.cell 0 0 rfl rfl)) rfl rfl ?_
    refine wt1 (v := .int .i64 ((bv + a + 1 : Nat) : Int)) rfl (fun ρ e W => ex_arith (k := .i64) (u := (bv : Int)) (v := ((a + 1 : Nat) : Int)) (e _ _ rfl) (e _ _ rfl) (congrArg some ((congrArg _ (show _ = ((bv + a + 1 : Nat) : Int) by omega)).trans (wrap_in (by omega) (by omega))))) rfl rfl ?_
    refine wt3 (v := .int .i64 ((bv + a + 1 : Nat) : Int)) rfl (fun ρ e => ex_assign (e _ _ rfl)) rfl rfl ?_
    refine wt_nil ?_
    refine xw_next K9 ?_
    refine cw_ret ?_
    refine xw_ret (v := .int .i64 ((bv + a + 1 : Nat) : Int)) (fun T hT => res1 rfl T _ (hT 2 _ rfl)) ?_
    exact ⟨bv + a + 1, by omega, rfl, O10⟩
theorem take_one {L : List Int} {s : Nat} {v : Int} (h : L[s]? = some v) : (L.drop s).take 1 = [v] := by
  have e : (L.drop s)[0]? = some v := by rw [List.getElem?_drop, Nat.add_zero]; exact h
  cases hd : L.drop s with
  | nil => rw [hd] at e; simp at e
  | cons a r => rw [hd] at e; simp at e; simp [e]
theorem take_cut {L : List Int} {s k m : Nat} (h : k ≤ m) : (L.drop s).take k ++ (L.drop (s + k)).take (m - k) = (L.drop s).take m := by
  rw [← List.drop_drop]
  have e := List.take_append_drop k ((L.drop s).take m)
  rw [List.take_take, Nat.min_eq_left h, List.drop_take] at e
  exact e
theorem gpart_ {L0 : List Int} {D : Nat → Prop} {V : Value} {bs : List Nat} {tb lb nb pb ob vb : Nat} (hbs : bs.length ≤ 100000) :
    ∀ (k s m cc : Nat), s + m ≤ L0.length → 1 ≤ m → m ≤ k → m ≤ cc → ∀ (Z : Bool → Nat → Prop) (w0 W : World) (A : Option Addr) (n c : Nat) (l : List VN) (a : Nat), Own Z w0 W [.blk tb 3 #[.int .i64 (a : Int)], .blk lb 32 #[V], .blk nb 68 #[.func (.func 51) #[] #[.pointer (some ⟨tb, 0, none⟩), .pointer (some ⟨lb, 0, none⟩)]], .blk pb 69 #[.func (.func 52) #[] #[.pointer (some ⟨nb, 0, none⟩), .pointer (some ⟨pb, 0, none⟩), .pointer (some ⟨ob, 0, none⟩)]], .blk ob 23 #[.slice A n c], .row (.slice A n c) 38 3 n (ncells l), .blk vb 3 ((intCs L0).toArray), .ro D (fun w => BytesD D w (V) bs)] → n + 2 * m ≤ 100000 → a + m ≤ 100000 →
    Calls Tryd.prog 52 #[.slice (some ⟨vb, s, none⟩) m cc, .pointer (some ⟨nb, 0, none⟩), .pointer (some ⟨pb, 0, none⟩), .pointer (some ⟨ob, 0, none⟩)] W fun e w' => ∃ T A' c', T.leaves = (L0.drop s).take m ∧ T.size = 2 * m - 1 ∧ e = .returned (.int .i64 ((n + (2 * m - 1) - 1 : Nat) : Int)) ∧ Own Z w0 w' [.blk tb 3 #[.int .i64 ((a + (m - 1) : Nat) : Int)], .blk lb 32 #[V], .blk nb 68 #[.func (.func 51) #[] #[.pointer (some ⟨tb, 0, none⟩), .pointer (some ⟨lb, 0, none⟩)]], .blk pb 69 #[.func (.func 52) #[] #[.pointer (some ⟨nb, 0, none⟩), .pointer (some ⟨pb, 0, none⟩), .pointer (some ⟨ob, 0, none⟩)]], .blk ob 23 #[.slice A' (n + (2 * m - 1)) c'], .row (.slice A' (n + (2 * m - 1)) c') 38 3 (n + (2 * m - 1)) (ncells (l ++ post T n)), .blk vb 3 ((intCs L0).toArray), .ro D (fun w => BytesD D w (V) bs)]
  | 0, s, m, cc, _, h1, h2, _ => absurd h1 (by omega)
  | k + 1, s, m, cc, hsm, hm1, hmk, hmc => fun Z w0 W A n c l a O0 hlim halim => by
    have IH := gpart_ (L0 := L0) (D := D) (V := V) (bs := bs) (tb := tb) (lb := lb) (nb := nb) (pb := pb) (ob := ob) (vb := vb) hbs k
    obtain ⟨v0, hv0⟩ : ∃ v, L0[s]? = some v := ⟨L0[s], List.getElem?_eq_getElem (by omega)⟩
    by_cases h1 : m = 1
    · skip
      refine sx_enter (args := [.slice (some ⟨vb, s, none⟩) m cc, .pointer (some ⟨nb, 0, none⟩), .pointer (some ⟨pb, 0, none⟩), .pointer (some ⟨ob, 0, none⟩)]) Tryd.func52 rfl rfl (by simp) ?_
      refine cw_seq (fun FK1 K1 => ?_)
      refine cw_region ?_
      refine wl_val (v := .int .i64 0) (fun ρ e => ex_assign (e _ _ rfl)) rfl rfl ?_
      refine wl_nil ?_
      refine xw_next K1 ?_
      refine cw_seq (fun FK2 K2 => ?_)
      refine cw_region ?_
      refine wl_val (v := .slice (some ⟨vb, s, none⟩) m cc) (fun ρ e => ex_move (e _ _ rfl)) rfl rfl ?_
      refine wl_val (v := .pointer (some ⟨vb, s, none⟩)) (fun ρ e => ex_idx (q := s) (i := 0) el36 (e _ _ rfl) (e _ _ rfl) (by omega) (by omega)) rfl rfl ?_
      refine wl_val (v := .int .i64 v0) (fun ρ e => ex_load1 ty3 (e _ _ rfl) (((O0.blk 6 rfl).cell _).trans (getI hv0))) rfl rfl ?_
      refine wl_val (v := .agg #[.int .i64 (-1), .int .i64 (-1), .int .i64 v0]) (fun ρ e => ex_build (cells := #[.int .i64 (-1), .int .i64 (-1), .int .i64 v0]) st38 (e.parts rfl) rfl) rfl rfl ?_
      obtain ⟨g3, w4, r5, O6, hg7, hs8⟩ := own_alloc O0 38 ze38 rfl
      refine wl_val (v := .pointer (some ⟨g3, 0, none⟩)) (fun ρ e => r5 ρ _ _ _ _ _) rfl rfl ?_
      obtain ⟨w9, r10, O11, hs12⟩ := own_put (o := 0) (n := 3) O6 ty38 (.agg #[.int .i64 (-1), .int .i64 (-1), .int .i64 v0]) [.int .i64 (-1), .int .i64 (-1), .int .i64 v0] (cs' := #[.int .i64 (-1), .int .i64 (-1), .int .i64 v0]) rfl rfl rfl (Nat.le_of_ble_eq_true rfl) rfl
      refine wl_none (fun ρ e => r10 ρ _ _ _ _ _ _ (e _ _ rfl) (e _ _ rfl)) rfl ?_
      refine wl_nil ?_
      refine xw_next K2 ?_
      refine cw_seq (fun FK13 K13 => ?_)
      refine cw_seq (fun FK14 K14 => ?_)
      refine cw_region ?_
      refine wl_val (v := .slice (some ⟨vb, s, none⟩) m cc) (fun ρ e => ex_move (e _ _ rfl)) rfl rfl ?_
      refine wl_val (v := .int .i64 (m : Int)) (fun ρ e => ex_len el36 (e _ _ rfl)) rfl rfl ?_
      refine wl_val (v := .bool false) (fun ρ e => ex_cmp (u := (m : Int)) (v := 1) (e _ _ rfl) (e _ _ rfl) (gtr0 (by omega))) rfl rfl ?_
      refine wl_nil ?_
      refine xw_next K14 ?_
      refine cw_false rfl ?_
      refine cw_skip ?_
      refine xw_next K13 ?_
      refine cw_seq (fun FK15 K15 => ?_)
      refine cw_region ?_
      refine wl_val (v := .slice A n c) (fun ρ e => ex_load1 ty23 (e _ _ rfl) (O11.cell 5 0 rfl rfl)) rfl rfl ?_
      refine wl_val (v := .agg #[.int .i64 (-1), .int .i64 (-1), .int .i64 v0]) (fun ρ e => ex_loadN (vs := [.int .i64 (-1), .int .i64 (-1), .int .i64 v0]) ty38 (e _ _ rfl) rfl (O11.cells 0 0 rfl rfl)) rfl rfl ?_
      obtain ⟨g16, w17, r18, O19, hg20, hs21⟩ := own_slice O11 el23 ze38 1 [(0, .agg #[.int .i64 (-1), .int .i64 (-1), .int .i64 v0])] (cs := #[.int .i64 (-1), .int .i64 (-1), .int .i64 v0]) (by decide) (by kernel_rfl)
      refine wl_val (v := .slice (some ⟨g16, 0, none⟩) 1 1) (fun ρ e => r18 ρ _ _ _ _ _ _ (e.parts rfl)) rfl rfl ?_
      obtain ⟨A22, c23, w24, r25, O26, hz27, hc28⟩ := own_app1 (O19.re [7, 0, 1, 2, 3, 4, 5, 6, 8, 9] rfl : Own Z w0 w17 [.row (.slice A n c) 38 3 n (ncells l), .blk g16 38 #[.int .i64 (-1), .int .i64 (-1), .int .i64 v0], .blk g3 38 #[.int .i64 (-1), .int .i64 (-1), .int .i64 v0], .blk tb 3 #[.int .i64 (a : Int)], .blk lb 32 #[V], .blk nb 68 #[.func (.func 51) #[] #[.pointer (some ⟨tb, 0, none⟩), .pointer (some ⟨lb, 0, none⟩)]], .blk pb 69 #[.func (.func 52) #[] #[.pointer (some ⟨nb, 0, none⟩), .pointer (some ⟨pb, 0, none⟩), .pointer (some ⟨ob, 0, none⟩)]], .blk ob 23 #[.slice A n c], .blk vb 3 ((intCs L0).toArray), .ro D (fun w => BytesD D w (V) bs)]) ap23 ((O19.re [7, 0, 1, 2, 3, 4, 5, 6, 8, 9] rfl : Own Z w0 w17 [.row (.slice A n c) 38 3 n (ncells l), .blk g16 38 #[.int .i64 (-1), .int .i64 (-1), .int .i64 v0], .blk g3 38 #[.int .i64 (-1), .int .i64 (-1), .int .i64 v0], .blk tb 3 #[.int .i64 (a : Int)], .blk lb 32 #[V], .blk nb 68 #[.func (.func 51) #[] #[.pointer (some ⟨tb, 0, none⟩), .pointer (some ⟨lb, 0, none⟩)]], .blk pb 69 #[.func (.func 52) #[] #[.pointer (some ⟨nb, 0, none⟩), .pointer (some ⟨pb, 0, none⟩), .pointer (some ⟨ob, 0, none⟩)]], .blk ob 23 #[.slice A n c], .blk vb 3 ((intCs L0).toArray), .ro D (fun w => BytesD D w (V) bs)]).blk 1 rfl) (cells := [.int .i64 (-1), .int .i64 (-1), .int .i64 v0]) rfl rfl (by omega) (by omega) (ys := (ncells (l ++ [(VN.mk (-1) (-1) v0)]))) (ncells_snoc l (VN.mk (-1) (-1) v0))
      refine wl_val (v := .slice A22 (n + 1) c23) (fun ρ e => r25 ρ _ _ _ _ _ _ _ (e _ _ rfl) (e _ _ rfl)) rfl rfl ?_
      obtain ⟨w29, r30, O31, hs32⟩ := own_put (o := 0) (n := 1) (O26.re [7, 0, 1, 2, 3, 4, 5, 6, 8, 9] rfl : Own Z w0 w24 [.blk ob 23 #[.slice A n c], .row (.slice A22 (n + 1) c23) 38 3 (n + 1) (ncells (l ++ [(VN.mk (-1) (-1) v0)])), .blk g16 38 #[.int .i64 (-1), .int .i64 (-1), .int .i64 v0], .blk g3 38 #[.int .i64 (-1), .int .i64 (-1), .int .i64 v0], .blk tb 3 #[.int .i64 (a : Int)], .blk lb 32 #[V], .blk nb 68 #[.func (.func 51) #[] #[.pointer (some ⟨tb, 0, none⟩), .pointer (some ⟨lb, 0, none⟩)]], .blk pb 69 #[.func (.func 52) #[] #[.pointer (some ⟨nb, 0, none⟩), .pointer (some ⟨pb, 0, none⟩), .pointer (some ⟨ob, 0, none⟩)]], .blk vb 3 ((intCs L0).toArray), .ro D (fun w => BytesD D w (V) bs)]) ty23 (.slice A22 (n + 1) c23) [.slice A22 (n + 1) c23] (cs' := #[.slice A22 (n + 1) c23]) rfl rfl rfl (Nat.le_of_ble_eq_true rfl) rfl
      refine wl_none (fun ρ e => r30 ρ _ _ _ _ _ _ (e _ _ rfl) (e _ _ rfl)) rfl ?_
      refine wl_nil ?_
      refine xw_next K15 ?_
      refine cw_seq (fun FK33 K33 => ?_)
      refine cw_region ?_
      refine wl_val (v := .slice A22 (n + 1) c23) (fun ρ e => ex_load1 ty23 (e _ _ rfl) (O31.cell 0 0 rfl rfl)) rfl rfl ?_
      refine wl_val (v := .int .i64 ((n + 1 : Nat) : Int)) (fun ρ e => ex_len el23 (e _ _ rfl)) rfl rfl ?_
      refine wl_val (v := .int .i64 ((n + 1 - 1 : Nat) : Int)) (fun ρ e => ex_arith (k := .i64) (u := ((n + 1 : Nat) : Int)) (v := 1) (e _ _ rfl) (e _ _ rfl) (congrArg some ((congrArg _ (show _ = ((n + 1 - 1 : Nat) : Int) by omega)).trans (wrap_in (by omega) (by omega))))) rfl rfl ?_
      refine wl_val (v := .int .i64 ((n + 1 - 1 : Nat) : Int)) (fun ρ e => ex_assign (e _ _ rfl)) rfl rfl ?_
      refine wl_nil ?_
      refine xw_next K33 ?_
      refine cw_ret ?_
      refine xw_ret (v := .int .i64 ((n + 1 - 1 : Nat) : Int)) (fun T hT => res1 rfl T _ (hT 5 _ rfl)) ?_
      have hlv : (Tr.leaf v0).leaves = (L0.drop s).take m := by rw [h1, take_one hv0]; rfl
      have hsz : (Tr.leaf v0).size = 2 * m - 1 := by rw [h1]; rfl
      have hn : n + 1 = n + (2 * m - 1) := by omega
      have ha2 : a = a + (m - 1) := by omega
      have hl : (l ++ [(VN.mk (-1) (-1) v0)]) = l ++ post (Tr.leaf v0) n := by simp [post]
      have hO := (O31.re [4, 5, 6, 7, 0, 1, 8, 9] rfl : Own Z w0 w29 [.blk tb 3 #[.int .i64 (a : Int)], .blk lb 32 #[V], .blk nb 68 #[.func (.func 51) #[] #[.pointer (some ⟨tb, 0, none⟩), .pointer (some ⟨lb, 0, none⟩)]], .blk pb 69 #[.func (.func 52) #[] #[.pointer (some ⟨nb, 0, none⟩), .pointer (some ⟨pb, 0, none⟩), .pointer (some ⟨ob, 0, none⟩)]], .blk ob 23 #[.slice A22 (n + 1) c23], .row (.slice A22 (n + 1) c23) 38 3 (n + 1) (ncells (l ++ [(VN.mk (-1) (-1) v0)])), .blk vb 3 ((intCs L0).toArray), .ro D (fun w => BytesD D w (V) bs)])
      rw [hn, hl] at hO
      have ha3 : a + (m - 1) = a := by omega
      exact ⟨Tr.leaf v0, A22, c23, hlv, hsz, congrArg (fun z : Nat => Ending.returned (.int .i64 (z : Int))) (show n + 1 - 1 = n + (2 * m - 1) - 1 by omega), by rw [ha3]; exact hO⟩
    · skip
      refine sx_enter (args := [.slice (some ⟨vb, s, none⟩) m cc, .pointer (some ⟨nb, 0, none⟩), .pointer (some ⟨pb, 0, none⟩), .pointer (some ⟨ob, 0, none⟩)]) Tryd.func52 rfl rfl (by simp) ?_
      refine cw_seq (fun FK1 K1 => ?_)
      refine cw_region ?_
      refine wl_val (v := .int .i64 0) (fun ρ e => ex_assign (e _ _ rfl)) rfl rfl ?_
      refine wl_nil ?_
      refine xw_next K1 ?_
      refine cw_seq (fun FK2 K2 => ?_)
      refine cw_region ?_
      refine wl_val (v := .slice (some ⟨vb, s, none⟩) m cc) (fun ρ e => ex_move (e _ _ rfl)) rfl rfl ?_
      refine wl_val (v := .pointer (some ⟨vb, s, none⟩)) (fun ρ e => ex_idx (q := s) (i := 0) el36 (e _ _ rfl) (e _ _ rfl) (by omega) (by omega)) rfl rfl ?_
      refine wl_val (v := .int .i64 v0) (fun ρ e => ex_load1 ty3 (e _ _ rfl) (((O0.blk 6 rfl).cell _).trans (getI hv0))) rfl rfl ?_
      refine wl_val (v := .agg #[.int .i64 (-1), .int .i64 (-1), .int .i64 v0]) (fun ρ e => ex_build (cells := #[.int .i64 (-1), .int .i64 (-1), .int .i64 v0]) st38 (e.parts rfl) rfl) rfl rfl ?_
      obtain ⟨g3, w4, r5, O6, hg7, hs8⟩ := own_alloc O0 38 ze38 rfl
      refine wl_val (v := .pointer (some ⟨g3, 0, none⟩)) (fun ρ e => r5 ρ _ _ _ _ _) rfl rfl ?_
      obtain ⟨w9, r10, O11, hs12⟩ := own_put (o := 0) (n := 3) O6 ty38 (.agg #[.int .i64 (-1), .int .i64 (-1), .int .i64 v0]) [.int .i64 (-1), .int .i64 (-1), .int .i64 v0] (cs' := #[.int .i64 (-1), .int .i64 (-1), .int .i64 v0]) rfl rfl rfl (Nat.le_of_ble_eq_true rfl) rfl
      refine wl_none (fun ρ e => r10 ρ _ _ _ _ _ _ (e _ _ rfl) (e _ _ rfl)) rfl ?_
      refine wl_nil ?_
      refine xw_next K2 ?_
      refine cw_seq (fun FK13 K13 => ?_)
      refine cw_seq (fun FK14 K14 => ?_)
      refine cw_region ?_
      refine wl_val (v := .slice (some ⟨vb, s, none⟩) m cc) (fun ρ e => ex_move (e _ _ rfl)) rfl rfl ?_
      refine wl_val (v := .int .i64 (m : Int)) (fun ρ e => ex_len el36 (e _ _ rfl)) rfl rfl ?_
      refine wl_val (v := .bool true) (fun ρ e => ex_cmp (u := (m : Int)) (v := 1) (e _ _ rfl) (e _ _ rfl) (gtr1 (by omega))) rfl rfl ?_
      refine wl_nil ?_
      refine xw_next K14 ?_
      refine cw_true rfl ?_
      refine cw_seq (fun FK15 K15 => ?_)
      refine cw_region ?_
      refine wl_val (v := .func (.func 51) #[] #[.pointer (some ⟨tb, 0, none⟩), .pointer (some ⟨lb, 0, none⟩)]) (fun ρ e => ex_load1 ty68 (e _ _ rfl) (O11.cell 3 0 rfl rfl)) rfl rfl ?_
      refine wl_callv (args := []) (all := [.pointer (some ⟨tb, 0, none⟩), .pointer (some ⟨lb, 0, none⟩)]) in_51 rfl rfl rfl rfl rfl ?_
      have O20h := Own.hand (A := [.blk tb 3 #[.int .i64 (a : Int)], .blk lb 32 #[V], .ro D (fun w => BytesD D w (V) bs)]) (R := [.blk g3 38 #[.int .i64 (-1), .int .i64 (-1), .int .i64 v0], .blk nb 68 #[.func (.func 51) #[] #[.pointer (some ⟨tb, 0, none⟩), .pointer (some ⟨lb, 0, none⟩)]], .blk pb 69 #[.func (.func 52) #[] #[.pointer (some ⟨nb, 0, none⟩), .pointer (some ⟨pb, 0, none⟩), .pointer (some ⟨ob, 0, none⟩)]], .blk ob 23 #[.slice A n c], .row (.slice A n c) 38 3 n (ncells l), .blk vb 3 ((intCs L0).toArray)]) (O11.re [1, 2, 8, 0, 3, 4, 5, 6, 7] rfl : Own Z w0 w9 [.blk tb 3 #[.int .i64 (a : Int)], .blk lb 32 #[V], .ro D (fun w => BytesD D w (V) bs), .blk g3 38 #[.int .i64 (-1), .int .i64 (-1), .int .i64 v0], .blk nb 68 #[.func (.func 51) #[] #[.pointer (some ⟨tb, 0, none⟩), .pointer (some ⟨lb, 0, none⟩)]], .blk pb 69 #[.func (.func 52) #[] #[.pointer (some ⟨nb, 0, none⟩), .pointer (some ⟨pb, 0, none⟩), .pointer (some ⟨ob, 0, none⟩)]], .blk ob 23 #[.slice A n c], .row (.slice A n c) 38 3 n (ncells l), .blk vb 3 ((intCs L0).toArray)])
      refine (next_ (a := a) O20h (by omega) hbs).mono ?_
      rintro _ w18 ⟨r16, hr17, rfl, h19⟩
      have O20 : Own Z w0 w18 [.blk tb 3 #[.int .i64 ((a + 1 : Nat) : Int)], .blk lb 32 #[V], .ro D (fun w => BytesD D w (V) bs), .blk g3 38 #[.int .i64 (-1), .int .i64 (-1), .int .i64 v0], .blk nb 68 #[.func (.func 51) #[] #[.pointer (some ⟨tb, 0, none⟩), .pointer (some ⟨lb, 0, none⟩)]], .blk pb 69 #[.func (.func 52) #[] #[.pointer (some ⟨nb, 0, none⟩), .pointer (some ⟨pb, 0, none⟩), .pointer (some ⟨ob, 0, none⟩)]], .blk ob 23 #[.slice A n c], .row (.slice A n c) 38 3 n (ncells l), .blk vb 3 ((intCs L0).toArray)] := Own.frame (A := [.blk tb 3 #[.int .i64 (a : Int)], .blk lb 32 #[V], .ro D (fun w => BytesD D w (V) bs)]) (R := [.blk g3 38 #[.int .i64 (-1), .int .i64 (-1), .int .i64 v0], .blk nb 68 #[.func (.func 51) #[] #[.pointer (some ⟨tb, 0, none⟩), .pointer (some ⟨lb, 0, none⟩)]], .blk pb 69 #[.func (.func 52) #[] #[.pointer (some ⟨nb, 0, none⟩), .pointer (some ⟨pb, 0, none⟩), .pointer (some ⟨ob, 0, none⟩)]], .blk ob 23 #[.slice A n c], .row (.slice A n c) 38 3 n (ncells l), .blk vb 3 ((intCs L0).toArray)]) (O11.re [1, 2, 8, 0, 3, 4, 5, 6, 7] rfl : Own Z w0 w9 [.blk tb 3 #[.int .i64 (a : Int)], .blk lb 32 #[V], .ro D (fun w => BytesD D w (V) bs), .blk g3 38 #[.int .i64 (-1), .int .i64 (-1), .int .i64 v0], .blk nb 68 #[.func (.func 51) #[] #[.pointer (some ⟨tb, 0, none⟩), .pointer (some ⟨lb, 0, none⟩)]], .blk pb 69 #[.func (.func 52) #[] #[.pointer (some ⟨nb, 0, none⟩), .pointer (some ⟨pb, 0, none⟩), .pointer (some ⟨ob, 0, none⟩)]], .blk ob 23 #[.slice A n c], .row (.slice A n c) 38 3 n (ncells l), .blk vb 3 ((intCs L0).toArray)]) h19
      refine ⟨_, rfl, ?_⟩
      refine wl_val (v := .slice (some ⟨vb, s, none⟩) m cc) (fun ρ e => ex_move (e _ _ rfl)) rfl rfl ?_
      refine wl_val (v := .int .i64 (m : Int)) (fun ρ e => ex_len el36 (e _ _ rfl)) rfl rfl ?_
      refine wl_val (v := .int .i64 ((m - 1 : Nat) : Int)) (fun ρ e => ex_arith (k := .i64) (u := (m : Int)) (v := 1) (e _ _ rfl) (e _ _ rfl) (congrArg some ((congrArg _ (show _ = ((m - 1 : Nat) : Int) by omega)).trans (wrap_in (by omega) (by omega))))) rfl rfl ?_
      obtain ⟨k21, hk21, lk21⟩ : ∃ q, r16 % (m - 1) = q ∧ q < m - 1 := ⟨_, rfl, Nat.mod_lt _ (by omega)⟩
      refine wl_val (v := .int .i64 (k21 : Int)) (fun ρ e => ex_remg (a := r16) (b := m - 1) (e _ _ rfl) (e _ _ rfl) (by omega) hk21) rfl rfl ?_
      obtain ⟨kk, hkk⟩ : ∃ q, q = k21 + 1 := ⟨_, rfl⟩
      refine wl_val (v := .int .i64 (kk : Int)) (fun ρ e => ex_arith (k := .i64) (u := 1) (v := (k21 : Int)) (e _ _ rfl) (e _ _ rfl) (congrArg some ((congrArg _ (show _ = (kk : Int) by omega)).trans (wrap_in (by omega) (by omega))))) rfl rfl ?_
      refine wl_val (v := .int .i64 (kk : Int)) (fun ρ e => ex_assign (e _ _ rfl)) rfl rfl ?_
      refine wl_nil ?_
      refine xw_next K15 ?_
      refine cw_drawn (fun X => Own Z w0 X [.blk lb 32 #[V], .ro D (fun w => BytesD D w (V) bs), .blk g3 38 #[.int .i64 (-1), .int .i64 (-1), .int .i64 v0], .blk nb 68 #[.func (.func 51) #[] #[.pointer (some ⟨tb, 0, none⟩), .pointer (some ⟨lb, 0, none⟩)]], .blk pb 69 #[.func (.func 52) #[] #[.pointer (some ⟨nb, 0, none⟩), .pointer (some ⟨pb, 0, none⟩), .pointer (some ⟨ob, 0, none⟩)]], .blk vb 3 ((intCs L0).toArray)]) 11 [(0, 0), (1, 1), (2, 1), (3, 1), (5, 0), (6, 1), (7, 1), (8, 1), (4, 2), (9, 2), (10, 1), (11, 3)] (by kernel_rfl) (by kernel_rfl) (PQ.then_ PQ.body) ((O20.re [1, 2, 3, 4, 5, 8] rfl : Own Z w0 w18 [.blk lb 32 #[V], .ro D (fun w => BytesD D w (V) bs), .blk g3 38 #[.int .i64 (-1), .int .i64 (-1), .int .i64 v0], .blk nb 68 #[.func (.func 51) #[] #[.pointer (some ⟨tb, 0, none⟩), .pointer (some ⟨lb, 0, none⟩)]], .blk pb 69 #[.func (.func 52) #[] #[.pointer (some ⟨nb, 0, none⟩), .pointer (some ⟨pb, 0, none⟩), .pointer (some ⟨ob, 0, none⟩)]], .blk vb 3 ((intCs L0).toArray)])).drew ?_
      have O22 : Own Z w0 w18.drew [.blk tb 3 #[.int .i64 ((a + 1 : Nat) : Int)], .blk lb 32 #[V], .ro D (fun w => BytesD D w (V) bs), .blk g3 38 #[.int .i64 (-1), .int .i64 (-1), .int .i64 v0], .blk nb 68 #[.func (.func 51) #[] #[.pointer (some ⟨tb, 0, none⟩), .pointer (some ⟨lb, 0, none⟩)]], .blk pb 69 #[.func (.func 52) #[] #[.pointer (some ⟨nb, 0, none⟩), .pointer (some ⟨pb, 0, none⟩), .pointer (some ⟨ob, 0, none⟩)]], .blk ob 23 #[.slice A n c], .row (.slice A n c) 38 3 n (ncells l), .blk vb 3 ((intCs L0).toArray)] := O20.drew
      refine wt0 (v := .func (.func 52) #[] #[.pointer (some ⟨nb, 0, none⟩), .pointer (some ⟨pb, 0, none⟩), .pointer (some ⟨ob, 0, none⟩)]) rfl (fun ρ e W hW => ex_load1 ty69 (e _ _ rfl) (hW.cell 4 0 rfl rfl)) rfl rfl ?_
      refine wt1 (v := .slice (some ⟨vb, s, none⟩) m cc) rfl (fun ρ e W => ex_move (e _ _ rfl)) rfl rfl ?_
      refine wt1 (v := .int .i64 (kk : Int)) rfl (fun ρ e W => ex_move (e _ _ rfl)) rfl rfl ?_
      refine wt1 (v := .slice (some ⟨vb, s, none⟩) kk cc) rfl (fun ρ e W => ex_sliceHi (h := kk) el36 (e _ _ rfl) (e _ _ rfl) (by omega)) rfl rfl ?_
      refine wt0 (v := .func (.func 52) #[] #[.pointer (some ⟨nb, 0, none⟩), .pointer (some ⟨pb, 0, none⟩), .pointer (some ⟨ob, 0, none⟩)]) rfl (fun ρ e W hW => ex_load1 ty69 (e _ _ rfl) (hW.cell 4 0 rfl rfl)) rfl rfl ?_
      refine wt1 (v := .slice (some ⟨vb, s, none⟩) m cc) rfl (fun ρ e W => ex_move (e _ _ rfl)) rfl rfl ?_
      refine wt1 (v := .int .i64 (kk : Int)) rfl (fun ρ e W => ex_move (e _ _ rfl)) rfl rfl ?_
      refine wt1 (v := .slice (some ⟨vb, (s + kk), none⟩) (m - kk) (cc - kk)) rfl (fun ρ e W => ex_sliceLo (k := kk) (q := s + kk) el36 (e _ _ rfl) (e _ _ rfl) (by omega) (by omega) (by omega)) rfl rfl ?_
      refine wt2_callv (args := [.slice (some ⟨vb, s, none⟩) kk cc]) (all := [.slice (some ⟨vb, s, none⟩) kk cc, .pointer (some ⟨nb, 0, none⟩), .pointer (some ⟨pb, 0, none⟩), .pointer (some ⟨ob, 0, none⟩)]) rfl in_52 rfl rfl rfl rfl rfl ?_
      have O30h := Own.hand (A := [.blk tb 3 #[.int .i64 ((a + 1 : Nat) : Int)], .blk lb 32 #[V], .blk nb 68 #[.func (.func 51) #[] #[.pointer (some ⟨tb, 0, none⟩), .pointer (some ⟨lb, 0, none⟩)]], .blk pb 69 #[.func (.func 52) #[] #[.pointer (some ⟨nb, 0, none⟩), .pointer (some ⟨pb, 0, none⟩), .pointer (some ⟨ob, 0, none⟩)]], .blk ob 23 #[.slice A n c], .row (.slice A n c) 38 3 n (ncells l), .blk vb 3 ((intCs L0).toArray), .ro D (fun w => BytesD D w (V) bs)]) (R := [.blk g3 38 #[.int .i64 (-1), .int .i64 (-1), .int .i64 v0]]) (O22.re [0, 1, 4, 5, 6, 7, 8, 2, 3] rfl : Own Z w0 w18.drew [.blk tb 3 #[.int .i64 ((a + 1 : Nat) : Int)], .blk lb 32 #[V], .blk nb 68 #[.func (.func 51) #[] #[.pointer (some ⟨tb, 0, none⟩), .pointer (some ⟨lb, 0, none⟩)]], .blk pb 69 #[.func (.func 52) #[] #[.pointer (some ⟨nb, 0, none⟩), .pointer (some ⟨pb, 0, none⟩), .pointer (some ⟨ob, 0, none⟩)]], .blk ob 23 #[.slice A n c], .row (.slice A n c) 38 3 n (ncells l), .blk vb 3 ((intCs L0).toArray), .ro D (fun w => BytesD D w (V) bs), .blk g3 38 #[.int .i64 (-1), .int .i64 (-1), .int .i64 v0]])
      refine (IH s kk cc (by omega) (by omega) (by omega) (by omega) _ _ _ _ _ _ l (a + 1) O30h (by omega) (by omega)).mono ?_
      rintro _ w28 ⟨T23, A26, c27, hlv24, hsz25, rfl, h29⟩
      have O30 : Own Z w0 w28 [.blk tb 3 #[.int .i64 ((a + 1 + (kk - 1) : Nat) : Int)], .blk lb 32 #[V], .blk nb 68 #[.func (.func 51) #[] #[.pointer (some ⟨tb, 0, none⟩), .pointer (some ⟨lb, 0, none⟩)]], .blk pb 69 #[.func (.func 52) #[] #[.pointer (some ⟨nb, 0, none⟩), .pointer (some ⟨pb, 0, none⟩), .pointer (some ⟨ob, 0, none⟩)]], .blk ob 23 #[.slice A26 (n + (2 * kk - 1)) c27], .row (.slice A26 (n + (2 * kk - 1)) c27) 38 3 (n + (2 * kk - 1)) (ncells (l ++ post T23 n)), .blk vb 3 ((intCs L0).toArray), .ro D (fun w => BytesD D w (V) bs), .blk g3 38 #[.int .i64 (-1), .int .i64 (-1), .int .i64 v0]] := Own.frame (A := [.blk tb 3 #[.int .i64 ((a + 1 : Nat) : Int)], .blk lb 32 #[V], .blk nb 68 #[.func (.func 51) #[] #[.pointer (some ⟨tb, 0, none⟩), .pointer (some ⟨lb, 0, none⟩)]], .blk pb 69 #[.func (.func 52) #[] #[.pointer (some ⟨nb, 0, none⟩), .pointer (some ⟨pb, 0, none⟩), .pointer (some ⟨ob, 0, none⟩)]], .blk ob 23 #[.slice A n c], .row (.slice A n c) 38 3 n (ncells l), .blk vb 3 ((intCs L0).toArray), .ro D (fun w => BytesD D w (V) bs)]) (R := [.blk g3 38 #[.int .i64 (-1), .int .i64 (-1), .int .i64 v0]]) (O22.re [0, 1, 4, 5, 6, 7, 8, 2, 3] rfl : Own Z w0 w18.drew [.blk tb 3 #[.int .i64 ((a + 1 : Nat) : Int)], .blk lb 32 #[V], .blk nb 68 #[.func (.func 51) #[] #[.pointer (some ⟨tb, 0, none⟩), .pointer (some ⟨lb, 0, none⟩)]], .blk pb 69 #[.func (.func 52) #[] #[.pointer (some ⟨nb, 0, none⟩), .pointer (some ⟨pb, 0, none⟩), .pointer (some ⟨ob, 0, none⟩)]], .blk ob 23 #[.slice A n c], .row (.slice A n c) 38 3 n (ncells l), .blk vb 3 ((intCs L0).toArray), .ro D (fun w => BytesD D w (V) bs), .blk g3 38 #[.int .i64 (-1), .int .i64 (-1), .int .i64 v0]]) h29
      refine ⟨_, rfl, (O30.re [1, 7, 8, 2, 3, 6] rfl : Own Z w0 w28 [.blk lb 32 #[V], .ro D (fun w => BytesD D w (V) bs), .blk g3 38 #[.int .i64 (-1), .int .i64 (-1), .int .i64 v0], .blk nb 68 #[.func (.func 51) #[] #[.pointer (some ⟨tb, 0, none⟩), .pointer (some ⟨lb, 0, none⟩)]], .blk pb 69 #[.func (.func 52) #[] #[.pointer (some ⟨nb, 0, none⟩), .pointer (some ⟨pb, 0, none⟩), .pointer (some ⟨ob, 0, none⟩)]], .blk vb 3 ((intCs L0).toArray)]), ?_⟩
      refine wt2_callv (args := [.slice (some ⟨vb, (s + kk), none⟩) (m - kk) (cc - kk)]) (all := [.slice (some ⟨vb, (s + kk), none⟩) (m - kk) (cc - kk), .pointer (some ⟨nb, 0, none⟩), .pointer (some ⟨pb, 0, none⟩), .pointer (some ⟨ob, 0, none⟩)]) rfl in_52 rfl rfl rfl rfl rfl ?_
      have O38h := Own.hand (A := [.blk tb 3 #[.int .i64 ((a + 1 + (kk - 1) : Nat) : Int)], .blk lb 32 #[V], .blk nb 68 #[.func (.func 51) #[] #[.pointer (some ⟨tb, 0, none⟩), .pointer (some ⟨lb, 0, none⟩)]], .blk pb 69 #[.func (.func 52) #[] #[.pointer (some ⟨nb, 0, none⟩), .pointer (some ⟨pb, 0, none⟩), .pointer (some ⟨ob, 0, none⟩)]], .blk ob 23 #[.slice A26 (n + (2 * kk - 1)) c27], .row (.slice A26 (n + (2 * kk - 1)) c27) 38 3 (n + (2 * kk - 1)) (ncells (l ++ post T23 n)), .blk vb 3 ((intCs L0).toArray), .ro D (fun w => BytesD D w (V) bs)]) (R := [.blk g3 38 #[.int .i64 (-1), .int .i64 (-1), .int .i64 v0]]) O30
      refine (IH (s + kk) (m - kk) (cc - kk) (by omega) (by omega) (by omega) (by omega) _ _ _ _ _ _ (l ++ post T23 n) (a + 1 + (kk - 1)) O38h (by omega) (by omega)).mono ?_
      rintro _ w36 ⟨T31, A34, c35, hlv32, hsz33, rfl, h37⟩
      have O38 : Own Z w0 w36 [.blk tb 3 #[.int .i64 ((a + 1 + (kk - 1) + ((m - kk) - 1) : Nat) : Int)], .blk lb 32 #[V], .blk nb 68 #[.func (.func 51) #[] #[.pointer (some ⟨tb, 0, none⟩), .pointer (some ⟨lb, 0, none⟩)]], .blk pb 69 #[.func (.func 52) #[] #[.pointer (some ⟨nb, 0, none⟩), .pointer (some ⟨pb, 0, none⟩), .pointer (some ⟨ob, 0, none⟩)]], .blk ob 23 #[.slice A34 ((n + (2 * kk - 1)) + (2 * (m - kk) - 1)) c35], .row (.slice A34 ((n + (2 * kk - 1)) + (2 * (m - kk) - 1)) c35) 38 3 ((n + (2 * kk - 1)) + (2 * (m - kk) - 1)) (ncells ((l ++ post T23 n) ++ post T31 (n + (2 * kk - 1)))), .blk vb 3 ((intCs L0).toArray), .ro D (fun w => BytesD D w (V) bs), .blk g3 38 #[.int .i64 (-1), .int .i64 (-1), .int .i64 v0]] := Own.frame (A := [.blk tb 3 #[.int .i64 ((a + 1 + (kk - 1) : Nat) : Int)], .blk lb 32 #[V], .blk nb 68 #[.func (.func 51) #[] #[.pointer (some ⟨tb, 0, none⟩), .pointer (some ⟨lb, 0, none⟩)]], .blk pb 69 #[.func (.func 52) #[] #[.pointer (some ⟨nb, 0, none⟩), .pointer (some ⟨pb, 0, none⟩), .pointer (some ⟨ob, 0, none⟩)]], .blk ob 23 #[.slice A26 (n + (2 * kk - 1)) c27], .row (.slice A26 (n + (2 * kk - 1)) c27) 38 3 (n + (2 * kk - 1)) (ncells (l ++ post T23 n)), .blk vb 3 ((intCs L0).toArray), .ro D (fun w => BytesD D w (V) bs)]) (R := [.blk g3 38 #[.int .i64 (-1), .int .i64 (-1), .int .i64 v0]]) O30 h37
      refine ⟨_, rfl, (O38.re [1, 7, 8, 2, 3, 6] rfl : Own Z w0 w36 [.blk lb 32 #[V], .ro D (fun w => BytesD D w (V) bs), .blk g3 38 #[.int .i64 (-1), .int .i64 (-1), .int .i64 v0], .blk nb 68 #[.func (.func 51) #[] #[.pointer (some ⟨tb, 0, none⟩), .pointer (some ⟨lb, 0, none⟩)]], .blk pb 69 #[.func (.func 52) #[] #[.pointer (some ⟨nb, 0, none⟩), .pointer (some ⟨pb, 0, none⟩), .pointer (some ⟨ob, 0, none⟩)]], .blk vb 3 ((intCs L0).toArray)]), ?_⟩
      refine wt1 (v := .agg #[.int .i64 ((n + (2 * kk - 1) - 1 : Nat) : Int), .int .i64 (((n + (2 * kk - 1)) + (2 * (m - kk) - 1) - 1 : Nat) : Int), .int .i64 0]) rfl (fun ρ e W => ex_build (cells := #[.int .i64 ((n + (2 * kk - 1) - 1 : Nat) : Int), .int .i64 (((n + (2 * kk - 1)) + (2 * (m - kk) - 1) - 1 : Nat) : Int), .int .i64 0]) st38 (e.parts rfl) rfl) rfl rfl ?_
      obtain ⟨w39, r40, O41, hs42⟩ := own_put (o := 0) (n := 3) (O38.re [8, 0, 1, 2, 3, 4, 5, 6, 7] rfl : Own Z w0 w36 [.blk g3 38 #[.int .i64 (-1), .int .i64 (-1), .int .i64 v0], .blk tb 3 #[.int .i64 ((a + 1 + (kk - 1) + ((m - kk) - 1) : Nat) : Int)], .blk lb 32 #[V], .blk nb 68 #[.func (.func 51) #[] #[.pointer (some ⟨tb, 0, none⟩), .pointer (some ⟨lb, 0, none⟩)]], .blk pb 69 #[.func (.func 52) #[] #[.pointer (some ⟨nb, 0, none⟩), .pointer (some ⟨pb, 0, none⟩), .pointer (some ⟨ob, 0, none⟩)]], .blk ob 23 #[.slice A34 ((n + (2 * kk - 1)) + (2 * (m - kk) - 1)) c35], .row (.slice A34 ((n + (2 * kk - 1)) + (2 * (m - kk) - 1)) c35) 38 3 ((n + (2 * kk - 1)) + (2 * (m - kk) - 1)) (ncells ((l ++ post T23 n) ++ post T31 (n + (2 * kk - 1)))), .blk vb 3 ((intCs L0).toArray), .ro D (fun w => BytesD D w (V) bs)]) ty38 (.agg #[.int .i64 ((n + (2 * kk - 1) - 1 : Nat) : Int), .int .i64 (((n + (2 * kk - 1)) + (2 * (m - kk) - 1) - 1 : Nat) : Int), .int .i64 0]) [.int .i64 ((n + (2 * kk - 1) - 1 : Nat) : Int), .int .i64 (((n + (2 * kk - 1)) + (2 * (m - kk) - 1) - 1 : Nat) : Int), .int .i64 0] (cs' := #[.int .i64 ((n + (2 * kk - 1) - 1 : Nat) : Int), .int .i64 (((n + (2 * kk - 1)) + (2 * (m - kk) - 1) - 1 : Nat) : Int), .int .i64 0]) rfl rfl rfl (Nat.le_of_ble_eq_true rfl) rfl
      refine wt3_none rfl (fun ρ e => r40 ρ _ _ _ _ _ _ (e _ _ rfl) (e _ _ rfl)) rfl ?_
      refine wt_nil ?_
      refine xw_next K13 ?_
      refine cw_seq (fun FK43 K43 => ?_)
      refine cw_region ?_
      refine wl_val (v := .slice A34 ((n + (2 * kk - 1)) + (2 * (m - kk) - 1)) c35) (fun ρ e => ex_load1 ty23 (e _ _ rfl) (O41.cell 5 0 rfl rfl)) rfl rfl ?_
      refine wl_val (v := .agg #[.int .i64 ((n + (2 * kk - 1) - 1 : Nat) : Int), .int .i64 (((n + (2 * kk - 1)) + (2 * (m - kk) - 1) - 1 : Nat) : Int), .int .i64 0]) (fun ρ e => ex_loadN (vs := [.int .i64 ((n + (2 * kk - 1) - 1 : Nat) : Int), .int .i64 (((n + (2 * kk - 1)) + (2 * (m - kk) - 1) - 1 : Nat) : Int), .int .i64 0]) ty38 (e _ _ rfl) rfl (O41.cells 0 0 rfl rfl)) rfl rfl ?_
      obtain ⟨g44, w45, r46, O47, hg48, hs49⟩ := own_slice O41 el23 ze38 1 [(0, .agg #[.int .i64 ((n + (2 * kk - 1) - 1 : Nat) : Int), .int .i64 (((n + (2 * kk - 1)) + (2 * (m - kk) - 1) - 1 : Nat) : Int), .int .i64 0])] (cs := #[.int .i64 ((n + (2 * kk - 1) - 1 : Nat) : Int), .int .i64 (((n + (2 * kk - 1)) + (2 * (m - kk) - 1) - 1 : Nat) : Int), .int .i64 0]) (by decide) (by kernel_rfl)
      refine wl_val (v := .slice (some ⟨g44, 0, none⟩) 1 1) (fun ρ e => r46 ρ _ _ _ _ _ _ (e.parts rfl)) rfl rfl ?_
      obtain ⟨A50, c51, w52, r53, O54, hz55, hc56⟩ := own_app1 (O47.re [7, 0, 1, 2, 3, 4, 5, 6, 8, 9] rfl : Own Z w0 w45 [.row (.slice A34 ((n + (2 * kk - 1)) + (2 * (m - kk) - 1)) c35) 38 3 ((n + (2 * kk - 1)) + (2 * (m - kk) - 1)) (ncells ((l ++ post T23 n) ++ post T31 (n + (2 * kk - 1)))), .blk g44 38 #[.int .i64 ((n + (2 * kk - 1) - 1 : Nat) : Int), .int .i64 (((n + (2 * kk - 1)) + (2 * (m - kk) - 1) - 1 : Nat) : Int), .int .i64 0], .blk g3 38 #[.int .i64 ((n + (2 * kk - 1) - 1 : Nat) : Int), .int .i64 (((n + (2 * kk - 1)) + (2 * (m - kk) - 1) - 1 : Nat) : Int), .int .i64 0], .blk tb 3 #[.int .i64 ((a + 1 + (kk - 1) + ((m - kk) - 1) : Nat) : Int)], .blk lb 32 #[V], .blk nb 68 #[.func (.func 51) #[] #[.pointer (some ⟨tb, 0, none⟩), .pointer (some ⟨lb, 0, none⟩)]], .blk pb 69 #[.func (.func 52) #[] #[.pointer (some ⟨nb, 0, none⟩), .pointer (some ⟨pb, 0, none⟩), .pointer (some ⟨ob, 0, none⟩)]], .blk ob 23 #[.slice A34 ((n + (2 * kk - 1)) + (2 * (m - kk) - 1)) c35], .blk vb 3 ((intCs L0).toArray), .ro D (fun w => BytesD D w (V) bs)]) ap23 ((O47.re [7, 0, 1, 2, 3, 4, 5, 6, 8, 9] rfl : Own Z w0 w45 [.row (.slice A34 ((n + (2 * kk - 1)) + (2 * (m - kk) - 1)) c35) 38 3 ((n + (2 * kk - 1)) + (2 * (m - kk) - 1)) (ncells ((l ++ post T23 n) ++ post T31 (n + (2 * kk - 1)))), .blk g44 38 #[.int .i64 ((n + (2 * kk - 1) - 1 : Nat) : Int), .int .i64 (((n + (2 * kk - 1)) + (2 * (m - kk) - 1) - 1 : Nat) : Int), .int .i64 0], .blk g3 38 #[.int .i64 ((n + (2 * kk - 1) - 1 : Nat) : Int), .int .i64 (((n + (2 * kk - 1)) + (2 * (m - kk) - 1) - 1 : Nat) : Int), .int .i64 0], .blk tb 3 #[.int .i64 ((a + 1 + (kk - 1) + ((m - kk) - 1) : Nat) : Int)], .blk lb 32 #[V], .blk nb 68 #[.func (.func 51) #[] #[.pointer (some ⟨tb, 0, none⟩), .pointer (some ⟨lb, 0, none⟩)]], .blk pb 69 #[.func (.func 52) #[] #[.pointer (some ⟨nb, 0, none⟩), .pointer (some ⟨pb, 0, none⟩), .pointer (some ⟨ob, 0, none⟩)]], .blk ob 23 #[.slice A34 ((n + (2 * kk - 1)) + (2 * (m - kk) - 1)) c35], .blk vb 3 ((intCs L0).toArray), .ro D (fun w => BytesD D w (V) bs)]).blk 1 rfl) (cells := [.int .i64 ((n + (2 * kk - 1) - 1 : Nat) : Int), .int .i64 (((n + (2 * kk - 1)) + (2 * (m - kk) - 1) - 1 : Nat) : Int), .int .i64 0]) rfl rfl (by omega) (by omega) (ys := (ncells (((l ++ post T23 n) ++ post T31 (n + (2 * kk - 1))) ++ [(VN.mk ((n + (2 * kk - 1) - 1 : Nat) : Int) (((n + (2 * kk - 1)) + (2 * (m - kk) - 1) - 1 : Nat) : Int) 0)]))) (ncells_snoc ((l ++ post T23 n) ++ post T31 (n + (2 * kk - 1))) (VN.mk ((n + (2 * kk - 1) - 1 : Nat) : Int) (((n + (2 * kk - 1)) + (2 * (m - kk) - 1) - 1 : Nat) : Int) 0))
      refine wl_val (v := .slice A50 (((n + (2 * kk - 1)) + (2 * (m - kk) - 1)) + 1) c51) (fun ρ e => r53 ρ _ _ _ _ _ _ _ (e _ _ rfl) (e _ _ rfl)) rfl rfl ?_
      obtain ⟨w57, r58, O59, hs60⟩ := own_put (o := 0) (n := 1) (O54.re [7, 0, 1, 2, 3, 4, 5, 6, 8, 9] rfl : Own Z w0 w52 [.blk ob 23 #[.slice A34 ((n + (2 * kk - 1)) + (2 * (m - kk) - 1)) c35], .row (.slice A50 (((n + (2 * kk - 1)) + (2 * (m - kk) - 1)) + 1) c51) 38 3 (((n + (2 * kk - 1)) + (2 * (m - kk) - 1)) + 1) (ncells (((l ++ post T23 n) ++ post T31 (n + (2 * kk - 1))) ++ [(VN.mk ((n + (2 * kk - 1) - 1 : Nat) : Int) (((n + (2 * kk - 1)) + (2 * (m - kk) - 1) - 1 : Nat) : Int) 0)])), .blk g44 38 #[.int .i64 ((n + (2 * kk - 1) - 1 : Nat) : Int), .int .i64 (((n + (2 * kk - 1)) + (2 * (m - kk) - 1) - 1 : Nat) : Int), .int .i64 0], .blk g3 38 #[.int .i64 ((n + (2 * kk - 1) - 1 : Nat) : Int), .int .i64 (((n + (2 * kk - 1)) + (2 * (m - kk) - 1) - 1 : Nat) : Int), .int .i64 0], .blk tb 3 #[.int .i64 ((a + 1 + (kk - 1) + ((m - kk) - 1) : Nat) : Int)], .blk lb 32 #[V], .blk nb 68 #[.func (.func 51) #[] #[.pointer (some ⟨tb, 0, none⟩), .pointer (some ⟨lb, 0, none⟩)]], .blk pb 69 #[.func (.func 52) #[] #[.pointer (some ⟨nb, 0, none⟩), .pointer (some ⟨pb, 0, none⟩), .pointer (some ⟨ob, 0, none⟩)]], .blk vb 3 ((intCs L0).toArray), .ro D (fun w => BytesD D w (V) bs)]) ty23 (.slice A50 (((n + (2 * kk - 1)) + (2 * (m - kk) - 1)) + 1) c51) [.slice A50 (((n + (2 * kk - 1)) + (2 * (m - kk) - 1)) + 1) c51] (cs' := #[.slice A50 (((n + (2 * kk - 1)) + (2 * (m - kk) - 1)) + 1) c51]) rfl rfl rfl (Nat.le_of_ble_eq_true rfl) rfl
      refine wl_none (fun ρ e => r58 ρ _ _ _ _ _ _ (e _ _ rfl) (e _ _ rfl)) rfl ?_
      refine wl_nil ?_
      refine xw_next K43 ?_
      refine cw_seq (fun FK61 K61 => ?_)
      refine cw_region ?_
      refine wl_val (v := .slice A50 (((n + (2 * kk - 1)) + (2 * (m - kk) - 1)) + 1) c51) (fun ρ e => ex_load1 ty23 (e _ _ rfl) (O59.cell 0 0 rfl rfl)) rfl rfl ?_
      refine wl_val (v := .int .i64 ((((n + (2 * kk - 1)) + (2 * (m - kk) - 1)) + 1 : Nat) : Int)) (fun ρ e => ex_len el23 (e _ _ rfl)) rfl rfl ?_
      refine wl_val (v := .int .i64 ((((n + (2 * kk - 1)) + (2 * (m - kk) - 1)) + 1 - 1 : Nat) : Int)) (fun ρ e => ex_arith (k := .i64) (u := ((((n + (2 * kk - 1)) + (2 * (m - kk) - 1)) + 1 : Nat) : Int)) (v := 1) (e _ _ rfl) (e _ _ rfl) (congrArg some ((congrArg _ (show _ = ((((n + (2 * kk - 1)) + (2 * (m - kk) - 1)) + 1 - 1 : Nat) : Int) by omega)).trans (wrap_in (by omega) (by omega))))) rfl rfl ?_
      refine wl_val (v := .int .i64 ((((n + (2 * kk - 1)) + (2 * (m - kk) - 1)) + 1 - 1 : Nat) : Int)) (fun ρ e => ex_assign (e _ _ rfl)) rfl rfl ?_
      refine wl_nil ?_
      refine xw_next K61 ?_
      refine cw_ret ?_
      refine xw_ret (v := .int .i64 ((((n + (2 * kk - 1)) + (2 * (m - kk) - 1)) + 1 - 1 : Nat) : Int)) (fun T hT => res1 rfl T _ (hT 5 _ rfl)) ?_
      have hlv : (Tr.node T23 T31).leaves = (L0.drop s).take m := by simp only [Tr.leaves, hlv24, hlv32]; exact take_cut (by omega)
      have hsz : (Tr.node T23 T31).size = 2 * m - 1 := by simp only [Tr.size, hsz25, hsz33]; omega
      have hn : ((n + (2 * kk - 1)) + (2 * (m - kk) - 1)) + 1 = n + (2 * m - 1) := by omega
      have ha2 : a + 1 + (kk - 1) + ((m - kk) - 1) = a + (m - 1) := by omega
      have hl : (((l ++ post T23 n) ++ post T31 (n + (2 * kk - 1))) ++ [(VN.mk ((n + (2 * kk - 1) - 1 : Nat) : Int) (((n + (2 * kk - 1)) + (2 * (m - kk) - 1) - 1 : Nat) : Int) 0)]) = l ++ post (Tr.node T23 T31) n := by simp [post, hsz25, hsz33]
      have hO := (O59.re [4, 5, 6, 7, 0, 1, 8, 9] rfl : Own Z w0 w57 [.blk tb 3 #[.int .i64 ((a + 1 + (kk - 1) + ((m - kk) - 1) : Nat) : Int)], .blk lb 32 #[V], .blk nb 68 #[.func (.func 51) #[] #[.pointer (some ⟨tb, 0, none⟩), .pointer (some ⟨lb, 0, none⟩)]], .blk pb 69 #[.func (.func 52) #[] #[.pointer (some ⟨nb, 0, none⟩), .pointer (some ⟨pb, 0, none⟩), .pointer (some ⟨ob, 0, none⟩)]], .blk ob 23 #[.slice A50 (((n + (2 * kk - 1)) + (2 * (m - kk) - 1)) + 1) c51], .row (.slice A50 (((n + (2 * kk - 1)) + (2 * (m - kk) - 1)) + 1) c51) 38 3 (((n + (2 * kk - 1)) + (2 * (m - kk) - 1)) + 1) (ncells (((l ++ post T23 n) ++ post T31 (n + (2 * kk - 1))) ++ [(VN.mk ((n + (2 * kk - 1) - 1 : Nat) : Int) (((n + (2 * kk - 1)) + (2 * (m - kk) - 1) - 1 : Nat) : Int) 0)])), .blk vb 3 ((intCs L0).toArray), .ro D (fun w => BytesD D w (V) bs)])
      rw [hn, hl, ha2] at hO
      exact ⟨Tr.node T23 T31, A50, c51, hlv, hsz, congrArg (fun z : Nat => Ending.returned (.int .i64 (z : Int))) (show ((n + (2 * kk - 1)) + (2 * (m - kk) - 1)) + 1 - 1 = n + (2 * m - 1) - 1 by omega), hO⟩
/-- 1 to i, and noughts behind: n numbers. -/
def numL (n i : Nat) : List Int := (List.range n).map fun k => if k < i then ((k + 1 : Nat) : Int) else 0
theorem numL_len (n i : Nat) : (numL n i).length = n := by simp [numL]
theorem numL_zero (n : Nat) : numL n 0 = List.replicate n 0 := by
  apply List.ext_getElem?
  intro k
  by_cases h : k < n <;> simp [numL, h]
theorem numL_set {n i : Nat} (hi : i < n) : (numL n i).set i ((i + 1 : Nat) : Int) = numL n (i + 1) := by
  apply List.ext_getElem?
  intro k
  rw [List.getElem?_set]
  by_cases hk : k < n
  · by_cases e : i = k
    · subst e; simp [numL, hk]
    · by_cases hlt : k < i
      · simp [numL, hk, e, hlt, show k < i + 1 by omega]
      · simp [numL, hk, e, hlt, show ¬ k < i + 1 by omega]
  · have e : ¬ i = k := by omega
    simp [numL, hk, e]
theorem numL_nodup (n : Nat) : (numL n n).Nodup := by
  unfold numL
  rw [List.nodup_iff_pairwise_ne, List.pairwise_map]
  refine List.Pairwise.imp_of_mem ?_ (List.nodup_iff_pairwise_ne.1 List.nodup_range)
  intro a b ha hb hne
  have ha := List.mem_range.1 ha
  have hb := List.mem_range.1 hb
  rw [if_pos ha, if_pos hb]
  omega
theorem numL_in {n : Nat} (hn : n ≤ 128) {v : Int} (h : v ∈ numL n n) : 1 ≤ v ∧ v ≤ 128 := by
  unfold numL at h
  obtain ⟨k, hk, rfl⟩ := List.mem_map.1 h
  have hk := List.mem_range.1 hk
  rw [if_pos hk]
  omega
theorem swap_perm {vs l : List Int} {i k : Nat} {xi xk : Int} (hi : vs[i]? = some xi) (hk : vs[k]? = some xk) (hp : vs.Perm l) : ((vs.set i xk).set k xi).Perm l := by
  obtain ⟨h1, rfl⟩ := List.getElem?_eq_some_iff.1 hi
  obtain ⟨h2, rfl⟩ := List.getElem?_eq_some_iff.1 hk
  exact (List.set_set_perm h1 h2).trans hp
theorem grown_ {W : World} {D : Nat → Prop} {V : Value} {bs : List Nat} (hB : BytesD D W V bs) (hD : ∀ k, D k → k < W.heap.size) (hbs : bs.length ≤ 100000) {x : Nat} (hx : x ≤ 255) :
    Calls Tryd.prog 20 #[.int .u8 (x : Int), V] W fun e w' => ∃ T A' c', GoodT T ∧ T.leaves.length = 1 + x % 40 ∧ e = .returned (.slice A' T.size c') ∧ Own Z0 W w' [.row (.slice A' T.size c') 38 3 T.size (ncells (post T 0))] := by
  obtain ⟨A, cl, rfl⟩ := hB.slice
  have O0 : Own Z0 W W [.ro D (fun w => BytesD D w (.slice A bs.length cl) bs)] := (Own.start W).oldro (D := D) (p := (fun w => BytesD D w (.slice A bs.length cl) bs)) (bytesE_holds hB hD)
  refine sx_enter (args := [.int .u8 (x : Int), .slice A bs.length cl]) Tryd.func20 rfl rfl (by simp) ?_
  refine cw_seq (fun FK1 K1 => ?_)
  refine cw_region ?_
  obtain ⟨g2, w3, r4, O5, hg6, hs7⟩ := own_box O0 32 (.slice A bs.length cl) rfl
  refine wl_val (v := .pointer (some ⟨g2, 0, none⟩)) (fun ρ e => r4 ρ _ _ _ _ _ _ (e _ _ rfl)) rfl rfl ?_
  refine wl_val (v := .slice none 0 0) (fun ρ e => ex_assign (e _ _ rfl)) rfl rfl ?_
  refine wl_nil ?_
  refine xw_next K1 ?_
  refine cw_seq (fun FK8 K8 => ?_)
  refine cw_region ?_
  refine wl_val (v := .int .u8 (x : Int)) (fun ρ e => ex_move (e _ _ rfl)) rfl rfl ?_
  obtain ⟨k9, hk9, lk9⟩ : ∃ q, x % 40 = q ∧ q < 40 := ⟨_, rfl, Nat.mod_lt _ (by omega)⟩
  refine wl_val (v := .int .u8 (k9 : Int)) (fun ρ e => ex_rem8 (a := x) (b := 40) (e _ _ rfl) (e _ _ rfl) (by omega) hk9) rfl rfl ?_
  refine wl_val (v := .int .i64 (k9 : Int)) (fun ρ e => ex_conv8 (e _ _ rfl) (by omega)) rfl rfl ?_
  obtain ⟨n, hn⟩ : ∃ q, q = 1 + k9 := ⟨_, rfl⟩
  refine wl_val (v := .int .i64 (n : Int)) (fun ρ e => ex_arith (k := .i64) (u := 1) (v := (k9 : Int)) (e _ _ rfl) (e _ _ rfl) (congrArg some ((congrArg _ (show _ = (n : Int) by omega)).trans (wrap_in (by omega) (by omega))))) rfl rfl ?_
  refine wl_val (v := .int .i64 (n : Int)) (fun ρ e => ex_assign (e _ _ rfl)) rfl rfl ?_
  refine wl_nil ?_
  refine xw_next K8 ?_
  refine cw_seq (fun FK10 K10 => ?_)
  refine cw_region ?_
  obtain ⟨g11, w12, r13, O14, hg15, hs16⟩ := own_alloc O5 3 ze3 rfl
  refine wl_val (v := .pointer (some ⟨g11, 0, none⟩)) (fun ρ e => r13 ρ _ _ _ _ _) rfl rfl ?_
  obtain ⟨w17, r18, O19, hs20⟩ := own_put (o := 0) (n := 1) O14 ty3 (.int .i64 0) [.int .i64 0] (cs' := #[.int .i64 0]) rfl rfl rfl (Nat.le_of_ble_eq_true rfl) rfl
  refine wl_none (fun ρ e => r18 ρ _ _ _ _ _ _ (e _ _ rfl) (e _ _ rfl)) rfl ?_
  refine wl_nil ?_
  refine xw_next K10 ?_
  refine cw_seq (fun FK21 K21 => ?_)
  refine cw_region ?_
  refine wl_val (v := .func (.func 51) #[] #[.pointer (some ⟨g11, 0, none⟩), .pointer (some ⟨g2, 0, none⟩)]) (fun ρ e => ex_func (us := []) (vs := [.pointer (some ⟨g11, 0, none⟩), .pointer (some ⟨g2, 0, none⟩)]) (e.list rfl) (e.list rfl)) rfl rfl ?_
  obtain ⟨g22, w23, r24, O25, hg26, hs27⟩ := own_alloc O19 68 ze68 rfl
  refine wl_val (v := .pointer (some ⟨g22, 0, none⟩)) (fun ρ e => r24 ρ _ _ _ _ _) rfl rfl ?_
  obtain ⟨w28, r29, O30, hs31⟩ := own_put (o := 0) (n := 1) O25 ty68 (.func (.func 51) #[] #[.pointer (some ⟨g11, 0, none⟩), .pointer (some ⟨g2, 0, none⟩)]) [.func (.func 51) #[] #[.pointer (some ⟨g11, 0, none⟩), .pointer (some ⟨g2, 0, none⟩)]] (cs' := #[.func (.func 51) #[] #[.pointer (some ⟨g11, 0, none⟩), .pointer (some ⟨g2, 0, none⟩)]]) rfl rfl rfl (Nat.le_of_ble_eq_true rfl) rfl
  refine wl_none (fun ρ e => r29 ρ _ _ _ _ _ _ (e _ _ rfl) (e _ _ rfl)) rfl ?_
  refine wl_nil ?_
  refine xw_next K21 ?_
  refine cw_seq (fun FK32 K32 => ?_)
  refine cw_region ?_
  refine wl_val (v := .int .i64 (n : Int)) (fun ρ e => ex_move (e _ _ rfl)) rfl rfl ?_
  obtain ⟨g33, w34, r35, O36, hg37, hs38⟩ := own_make1 O30 ap36 rfl n (by decide) (by omega) (cs := (intCs (numL n 0)).toArray) (by rw [numL_zero]; simp [intCs])
  refine wl_val (v := .slice (some ⟨g33, 0, none⟩) n n) (fun ρ e => r35 ρ _ _ _ _ _ _ _ (e _ _ rfl) (e _ _ rfl)) rfl rfl ?_
  refine wl_val (v := .slice (some ⟨g33, 0, none⟩) n n) (fun ρ e => ex_assign (e _ _ rfl)) rfl rfl ?_
  refine wl_nil ?_
  refine xw_next K32 ?_
  refine cw_seq (fun FK39 K39 => ?_)
  refine cw_seq (fun FK40 K40 => ?_)
  refine cw_region ?_
  refine wl_val (v := .slice (some ⟨g33, 0, none⟩) n n) (fun ρ e => ex_move (e _ _ rfl)) rfl rfl ?_
  refine wl_val (v := .int .i64 (n : Int)) (fun ρ e => ex_len el36 (e _ _ rfl)) rfl rfl ?_
  refine wl_val (v := .int .i64 0) (fun ρ e => ex_move (e _ _ rfl)) rfl rfl ?_
  refine wl_nil ?_
  refine xw_next K40 ?_
  refine cw_block ?_
  have O41 : Own Z0 W w34 [.blk g11 3 #[.int .i64 0], .blk g2 32 #[.slice A bs.length cl], .blk g22 68 #[.func (.func 51) #[] #[.pointer (some ⟨g11, 0, none⟩), .pointer (some ⟨g2, 0, none⟩)]], .blk g33 3 ((intCs (numL n 0)).toArray), .ro D (fun w => BytesD D w (.slice A bs.length cl) bs)] := (O36.re [2, 3, 1, 0, 4] rfl : Own Z0 W w34 [.blk g11 3 #[.int .i64 0], .blk g2 32 #[.slice A bs.length cl], .blk g22 68 #[.func (.func 51) #[] #[.pointer (some ⟨g11, 0, none⟩), .pointer (some ⟨g2, 0, none⟩)]], .blk g33 3 ((intCs (numL n 0)).toArray), .ro D (fun w => BytesD D w (.slice A bs.length cl) bs)])
  refine cw_loop (ι := Nat) (fun q => [(5, .int .i64 (n : Int)), (7, .pointer (some ⟨g22, 0, none⟩)), (8, .slice (some ⟨g33, 0, none⟩) n n), (22, .int .i64 (n : Int)), (23, .int .i64 (q : Int))]) (fun q X => (q ≤ n) ∧ Own Z0 W X [.blk g11 3 #[.int .i64 0], .blk g2 32 #[.slice A bs.length cl], .blk g22 68 #[.func (.func 51) #[] #[.pointer (some ⟨g11, 0, none⟩), .pointer (some ⟨g2, 0, none⟩)]], .blk g33 3 ((intCs (numL n q)).toArray), .ro D (fun w => BytesD D w (.slice A bs.length cl) bs)]) (fun q => n - q) 0 ⟨Nat.zero_le _, O41⟩ ⟨rfl, rfl, rfl, rfl, rfl, trivial⟩ (fun q w42 hJ F43 K44 => ?_)
  obtain ⟨i, rfl⟩ : ∃ x, x = q := ⟨_, rfl⟩
  obtain ⟨hi0, O45⟩ := hJ
  try dsimp only at hi0 O45 ⊢
  by_cases hi : i < n
  · skip
    refine cw_seq (fun FK46 K46 => ?_)
    refine cw_region ?_
    refine wl_val (v := .bool true) (fun ρ e => ex_cmp (u := (i : Int)) (v := (n : Int)) (e _ _ rfl) (e _ _ rfl) (lss1 (by omega))) rfl rfl ?_
    refine wl_nil ?_
    refine xw_next K46 ?_
    refine cw_seq (fun FK47 K47 => ?_)
    refine cw_true rfl ?_
    refine cw_skip ?_
    refine xw_next K47 ?_
    refine cw_seq (fun FK48 K48 => ?_)
    refine cw_block ?_
    refine cw_seq (fun FK49 K49 => ?_)
    refine cw_region ?_
    refine wl_val (v := .int .i64 (i : Int)) (fun ρ e => ex_move (e _ _ rfl)) rfl rfl ?_
    refine wl_val (v := .int .i64 (i : Int)) (fun ρ e => ex_assign (e _ _ rfl)) rfl rfl ?_
    refine wl_nil ?_
    refine xw_next K49 ?_
    refine cw_region ?_
    refine wl_val (v := .slice (some ⟨g33, 0, none⟩) n n) (fun ρ e => ex_move (e _ _ rfl)) rfl rfl ?_
    refine wl_val (v := .int .i64 (i : Int)) (fun ρ e => ex_move (e _ _ rfl)) rfl rfl ?_
    refine wl_val (v := .int .i64 (i : Int)) (fun ρ e => ex_move (e _ _ rfl)) rfl rfl ?_
    refine wl_val (v := .int .i64 ((i + 1 : Nat) : Int)) (fun ρ e => ex_arith (k := .i64) (u := (i : Int)) (v := 1) (e _ _ rfl) (e _ _ rfl) (congrArg some ((congrArg _ (show _ = ((i + 1 : Nat) : Int) by omega)).trans (wrap_in (by omega) (by omega))))) rfl rfl ?_
    refine wl_val (v := .pointer (some ⟨g33, i, none⟩)) (fun ρ e => ex_idx (q := i) (i := i) el36 (e _ _ rfl) (e _ _ rfl) (by omega) (by omega)) rfl rfl ?_
    obtain ⟨w50, r51, O52, hs53⟩ := own_put (o := i) (n := 1) (O45.re [3, 0, 1, 2, 4] rfl : Own Z0 W w42 [.blk g33 3 ((intCs (numL n i)).toArray), .blk g11 3 #[.int .i64 0], .blk g2 32 #[.slice A bs.length cl], .blk g22 68 #[.func (.func 51) #[] #[.pointer (some ⟨g11, 0, none⟩), .pointer (some ⟨g2, 0, none⟩)]], .ro D (fun w => BytesD D w (.slice A bs.length cl) bs)]) ty3 (.int .i64 ((i + 1 : Nat) : Int)) [.int .i64 ((i + 1 : Nat) : Int)] (cs' := (intCs ((numL n i).set i ((i + 1 : Nat) : Int))).toArray) rfl rfl rfl (by simp [intCs, numL_len] <;> omega) (setI _ i ((i + 1 : Nat) : Int))
    refine wl_none (fun ρ e => r51 ρ _ _ _ _ _ _ (e _ _ rfl) (e _ _ rfl)) rfl ?_
    refine wl_nil ?_
    refine xw_block ?_
    refine xw_next K48 ?_
    refine cw_region ?_
    refine wl_val (v := .int .i64 ((i + 1 : Nat) : Int)) (fun ρ e => ex_arith (k := .i64) (u := (i : Int)) (v := 1) (e _ _ rfl) (e _ _ rfl) (congrArg some ((congrArg _ (show _ = ((i + 1 : Nat) : Int) by omega)).trans (wrap_in (by omega) (by omega))))) rfl rfl ?_
    refine wl_val (v := .int .i64 ((i + 1 : Nat) : Int)) (fun ρ e => ex_move (e _ _ rfl)) rfl rfl ?_
    refine wl_nil ?_
    have O54 : Own Z0 W w50 [.blk g11 3 #[.int .i64 0], .blk g2 32 #[.slice A bs.length cl], .blk g22 68 #[.func (.func 51) #[] #[.pointer (some ⟨g11, 0, none⟩), .pointer (some ⟨g2, 0, none⟩)]], .blk g33 3 ((intCs (numL n (i + 1))).toArray), .ro D (fun w => BytesD D w (.slice A bs.length cl) bs)] := by rw [← numL_set hi]; exact (O52.re [1, 2, 3, 0, 4] rfl : Own Z0 W w50 [.blk g11 3 #[.int .i64 0], .blk g2 32 #[.slice A bs.length cl], .blk g22 68 #[.func (.func 51) #[] #[.pointer (some ⟨g11, 0, none⟩), .pointer (some ⟨g2, 0, none⟩)]], .blk g33 3 ((intCs ((numL n i).set i ((i + 1 : Nat) : Int))).toArray), .ro D (fun w => BytesD D w (.slice A bs.length cl) bs)])
    refine xw_round K44 (i + 1) (by show n - (i + 1) < n - i; omega) ⟨(by show i + 1 ≤ n; omega), O54⟩ ⟨rfl, rfl, rfl, rfl, rfl, trivial⟩
  · have hie : i = n := by omega
    rw [hie] at O45
    refine cw_seq (fun FK55 K55 => ?_)
    refine cw_region ?_
    refine wl_val (v := .bool false) (fun ρ e => ex_cmp (u := (i : Int)) (v := (n : Int)) (e _ _ rfl) (e _ _ rfl) (lss0 (by omega))) rfl rfl ?_
    refine wl_nil ?_
    refine xw_next K55 ?_
    refine cw_seq (fun FK56 K56 => ?_)
    refine cw_false rfl ?_
    refine cw_exit ?_
    refine xw_past (by intro h; cases h) ?_
    refine xw_past (by intro h; cases h) ?_
    refine xw_here ?_
    refine xw_next K39 ?_
    refine cw_seq (fun FK57 K57 => ?_)
    refine cw_seq (fun FK58 K58 => ?_)
    refine cw_region ?_
    refine wl_val (v := .slice (some ⟨g33, 0, none⟩) n n) (fun ρ e => ex_move (e _ _ rfl)) rfl rfl ?_
    refine wl_val (v := .int .i64 (n : Int)) (fun ρ e => ex_len el36 (e _ _ rfl)) rfl rfl ?_
    refine wl_val (v := .int .i64 0) (fun ρ e => ex_move (e _ _ rfl)) rfl rfl ?_
    refine wl_nil ?_
    refine xw_next K58 ?_
    refine cw_block ?_
    have O59 : Own Z0 W w42 [.blk g11 3 #[.int .i64 0], .blk g2 32 #[.slice A bs.length cl], .blk g22 68 #[.func (.func 51) #[] #[.pointer (some ⟨g11, 0, none⟩), .pointer (some ⟨g2, 0, none⟩)]], .blk g33 3 ((intCs (numL n n)).toArray), .ro D (fun w => BytesD D w (.slice A bs.length cl) bs)] := O45
    have hz0 : ((0 : Nat) : Int) = 0 := rfl
    refine cw_loop (ι := Nat × List Int) (fun q => [(5, .int .i64 (n : Int)), (7, .pointer (some ⟨g22, 0, none⟩)), (8, .slice (some ⟨g33, 0, none⟩) n n), (33, .int .i64 (n : Int)), (34, .int .i64 (q.1 : Int))]) (fun q X => (q.1 ≤ n) ∧ (q.2.Perm (numL n n)) ∧ Own Z0 W X [.blk g11 3 #[.int .i64 (q.1 : Int)], .blk g2 32 #[.slice A bs.length cl], .blk g22 68 #[.func (.func 51) #[] #[.pointer (some ⟨g11, 0, none⟩), .pointer (some ⟨g2, 0, none⟩)]], .blk g33 3 ((intCs q.2).toArray), .ro D (fun w => BytesD D w (.slice A bs.length cl) bs)]) (fun q => n - q.1) (0, (numL n n)) ⟨Nat.zero_le _, List.Perm.refl _, O59⟩ ⟨rfl, rfl, rfl, rfl, rfl, trivial⟩ (fun q w60 hJ F61 K62 => ?_)
    obtain ⟨i, vs⟩ := q
    obtain ⟨hi0, hp, O63⟩ := hJ
    dsimp only at hi0 hp O63 ⊢
    have hlen : vs.length = n := by rw [hp.length_eq, numL_len]
    by_cases hi : i < n
    · skip
      obtain ⟨xi, hxi⟩ : ∃ v, vs[i]? = some v := ⟨vs[i], List.getElem?_eq_getElem (by omega)⟩
      refine cw_seq (fun FK64 K64 => ?_)
      refine cw_region ?_
      refine wl_val (v := .bool true) (fun ρ e => ex_cmp (u := (i : Int)) (v := (n : Int)) (e _ _ rfl) (e _ _ rfl) (lss1 (by omega))) rfl rfl ?_
      refine wl_nil ?_
      refine xw_next K64 ?_
      refine cw_seq (fun FK65 K65 => ?_)
      refine cw_true rfl ?_
      refine cw_skip ?_
      refine xw_next K65 ?_
      refine cw_seq (fun FK66 K66 => ?_)
      refine cw_block ?_
      refine cw_seq (fun FK67 K67 => ?_)
      refine cw_region ?_
      refine wl_val (v := .int .i64 (i : Int)) (fun ρ e => ex_move (e _ _ rfl)) rfl rfl ?_
      refine wl_val (v := .int .i64 (i : Int)) (fun ρ e => ex_assign (e _ _ rfl)) rfl rfl ?_
      refine wl_nil ?_
      refine xw_next K67 ?_
      refine cw_seq (fun FK68 K68 => ?_)
      refine cw_region ?_
      refine wl_val (v := .func (.func 51) #[] #[.pointer (some ⟨g11, 0, none⟩), .pointer (some ⟨g2, 0, none⟩)]) (fun ρ e => ex_load1 ty68 (e _ _ rfl) (O63.cell 2 0 rfl rfl)) rfl rfl ?_
      refine wl_callv (args := []) (all := [.pointer (some ⟨g11, 0, none⟩), .pointer (some ⟨g2, 0, none⟩)]) in_51 rfl rfl rfl rfl rfl ?_
      have O73h := Own.hand (A := [.blk g11 3 #[.int .i64 (i : Int)], .blk g2 32 #[.slice A bs.length cl], .ro D (fun w => BytesD D w (.slice A bs.length cl) bs)]) (R := [.blk g22 68 #[.func (.func 51) #[] #[.pointer (some ⟨g11, 0, none⟩), .pointer (some ⟨g2, 0, none⟩)]], .blk g33 3 ((intCs vs).toArray)]) (O63.re [0, 1, 4, 2, 3] rfl : Own Z0 W w60 [.blk g11 3 #[.int .i64 (i : Int)], .blk g2 32 #[.slice A bs.length cl], .ro D (fun w => BytesD D w (.slice A bs.length cl) bs), .blk g22 68 #[.func (.func 51) #[] #[.pointer (some ⟨g11, 0, none⟩), .pointer (some ⟨g2, 0, none⟩)]], .blk g33 3 ((intCs vs).toArray)])
      refine (next_ (a := i) O73h (by omega) hbs).mono ?_
      rintro _ w71 ⟨r69, hr70, rfl, h72⟩
      have O73 : Own Z0 W w71 [.blk g11 3 #[.int .i64 ((i + 1 : Nat) : Int)], .blk g2 32 #[.slice A bs.length cl], .ro D (fun w => BytesD D w (.slice A bs.length cl) bs), .blk g22 68 #[.func (.func 51) #[] #[.pointer (some ⟨g11, 0, none⟩), .pointer (some ⟨g2, 0, none⟩)]], .blk g33 3 ((intCs vs).toArray)] := Own.frame (A := [.blk g11 3 #[.int .i64 (i : Int)], .blk g2 32 #[.slice A bs.length cl], .ro D (fun w => BytesD D w (.slice A bs.length cl) bs)]) (R := [.blk g22 68 #[.func (.func 51) #[] #[.pointer (some ⟨g11, 0, none⟩), .pointer (some ⟨g2, 0, none⟩)]], .blk g33 3 ((intCs vs).toArray)]) (O63.re [0, 1, 4, 2, 3] rfl : Own Z0 W w60 [.blk g11 3 #[.int .i64 (i : Int)], .blk g2 32 #[.slice A bs.length cl], .ro D (fun w => BytesD D w (.slice A bs.length cl) bs), .blk g22 68 #[.func (.func 51) #[] #[.pointer (some ⟨g11, 0, none⟩), .pointer (some ⟨g2, 0, none⟩)]], .blk g33 3 ((intCs vs).toArray)]) h72
      refine ⟨_, rfl, ?_⟩
      refine wl_val (v := .int .i64 (n : Int)) (fun ρ e => ex_move (e _ _ rfl)) rfl rfl ?_
      obtain ⟨k74, hk74, lk74⟩ : ∃ q, r69 % n = q ∧ q < n := ⟨_, rfl, Nat.mod_lt _ (by omega)⟩
      obtain ⟨xk, hxk⟩ : ∃ v, vs[k74]? = some v := ⟨vs[k74], List.getElem?_eq_getElem (by omega)⟩
      refine wl_val (v := .int .i64 (k74 : Int)) (fun ρ e => ex_remg (a := r69) (b := n) (e _ _ rfl) (e _ _ rfl) (by omega) hk74) rfl rfl ?_
      refine wl_val (v := .int .i64 (k74 : Int)) (fun ρ e => ex_assign (e _ _ rfl)) rfl rfl ?_
      refine wl_nil ?_
      refine xw_next K68 ?_
      refine cw_drawn (fun X => Own Z0 W X [.blk g11 3 #[.int .i64 ((i + 1 : Nat) : Int)], .blk g2 32 #[.slice A bs.length cl], .ro D (fun w => BytesD D w (.slice A bs.length cl) bs), .blk g22 68 #[.func (.func 51) #[] #[.pointer (some ⟨g11, 0, none⟩), .pointer (some ⟨g2, 0, none⟩)]], .blk g33 3 ((intCs vs).toArray)]) 13 [(0, 1), (1, 1), (2, 1), (3, 1), (4, 1), (5, 1), (6, 1), (7, 0), (8, 1), (9, 1), (10, 1), (11, 0), (12, 1), (13, 3), (14, 1), (15, 3)] (by kernel_rfl) (by kernel_rfl) (PQ.block (PQ.then_ (PQ.then_ (PQ.block (PQ.then_ PQ.body))))) (O73).drew ?_
      have O75 : Own Z0 W w71.drew [.blk g11 3 #[.int .i64 ((i + 1 : Nat) : Int)], .blk g2 32 #[.slice A bs.length cl], .ro D (fun w => BytesD D w (.slice A bs.length cl) bs), .blk g22 68 #[.func (.func 51) #[] #[.pointer (some ⟨g11, 0, none⟩), .pointer (some ⟨g2, 0, none⟩)]], .blk g33 3 ((intCs vs).toArray)] := O73.drew
      refine wt1 (v := .slice (some ⟨g33, 0, none⟩) n n) rfl (fun ρ e W => ex_move (e _ _ rfl)) rfl rfl ?_
      refine wt1 (v := .int .i64 (i : Int)) rfl (fun ρ e W => ex_move (e _ _ rfl)) rfl rfl ?_
      refine wt1 (v := .slice (some ⟨g33, 0, none⟩) n n) rfl (fun ρ e W => ex_move (e _ _ rfl)) rfl rfl ?_
      refine wt1 (v := .int .i64 (k74 : Int)) rfl (fun ρ e W => ex_move (e _ _ rfl)) rfl rfl ?_
      refine wt1 (v := .slice (some ⟨g33, 0, none⟩) n n) rfl (fun ρ e W => ex_move (e _ _ rfl)) rfl rfl ?_
      refine wt1 (v := .int .i64 (k74 : Int)) rfl (fun ρ e W => ex_move (e _ _ rfl)) rfl rfl ?_
      refine wt1 (v := .pointer (some ⟨g33, k74, none⟩)) rfl (fun ρ e W => ex_idx (q := k74) (i := k74) el36 (e _ _ rfl) (e _ _ rfl) (by omega) (by omega)) rfl rfl ?_
      refine wt0 (v := .int .i64 xk) rfl (fun ρ e W hW => ex_load1 ty3 (e _ _ rfl) (((hW.blk 4 rfl).cell _).trans (getI hxk))) rfl rfl ?_
      refine wt1 (v := .slice (some ⟨g33, 0, none⟩) n n) rfl (fun ρ e W => ex_move (e _ _ rfl)) rfl rfl ?_
      refine wt1 (v := .int .i64 (i : Int)) rfl (fun ρ e W => ex_move (e _ _ rfl)) rfl rfl ?_
      refine wt1 (v := .pointer (some ⟨g33, i, none⟩)) rfl (fun ρ e W => ex_idx (q := i) (i := i) el36 (e _ _ rfl) (e _ _ rfl) (by omega) (by omega)) rfl rfl ?_
      refine wt0 (v := .int .i64 xi) rfl (fun ρ e W hW => ex_load1 ty3 (e _ _ rfl) (((hW.blk 4 rfl).cell _).trans (getI hxi))) rfl rfl ?_
      refine wt1 (v := .pointer (some ⟨g33, i, none⟩)) rfl (fun ρ e W => ex_idx (q := i) (i := i) el36 (e _ _ rfl) (e _ _ rfl) (by omega) (by omega)) rfl rfl ?_
      obtain ⟨w76, r77, O78, hs79⟩ := own_put (o := i) (n := 1) (O75.re [4, 0, 1, 2, 3] rfl : Own Z0 W w71.drew [.blk g33 3 ((intCs vs).toArray), .blk g11 3 #[.int .i64 ((i + 1 : Nat) : Int)], .blk g2 32 #[.slice A bs.length cl], .ro D (fun w => BytesD D w (.slice A bs.length cl) bs), .blk g22 68 #[.func (.func 51) #[] #[.pointer (some ⟨g11, 0, none⟩), .pointer (some ⟨g2, 0, none⟩)]]]) ty3 (.int .i64 xk) [.int .i64 xk] (cs' := (intCs (vs.set i xk)).toArray) rfl rfl rfl (by simp [intCs, numL_len] <;> omega) (setI _ i xk)
      refine wt3_none rfl (fun ρ e => r77 ρ _ _ _ _ _ _ (e _ _ rfl) (e _ _ rfl)) rfl ?_
      refine wt1 (v := .pointer (some ⟨g33, k74, none⟩)) rfl (fun ρ e W => ex_idx (q := k74) (i := k74) el36 (e _ _ rfl) (e _ _ rfl) (by omega) (by omega)) rfl rfl ?_
      obtain ⟨w80, r81, O82, hs83⟩ := own_put (o := k74) (n := 1) O78 ty3 (.int .i64 xi) [.int .i64 xi] (cs' := (intCs ((vs.set i xk).set k74 xi)).toArray) rfl rfl rfl (by simp [intCs, numL_len] <;> omega) (setI _ k74 xi)
      refine wt3_none rfl (fun ρ e => r81 ρ _ _ _ _ _ _ (e _ _ rfl) (e _ _ rfl)) rfl ?_
      refine wt_nil ?_
      refine xw_block ?_
      refine xw_next K66 ?_
      refine cw_region ?_
      refine wl_val (v := .int .i64 ((i + 1 : Nat) : Int)) (fun ρ e => ex_arith (k := .i64) (u := (i : Int)) (v := 1) (e _ _ rfl) (e _ _ rfl) (congrArg some ((congrArg _ (show _ = ((i + 1 : Nat) : Int) by omega)).trans (wrap_in (by omega) (by omega))))) rfl rfl ?_
      refine wl_val (v := .int .i64 ((i + 1 : Nat) : Int)) (fun ρ e => ex_move (e _ _ rfl)) rfl rfl ?_
      refine wl_nil ?_
      refine xw_round K62 (i + 1, ((vs.set i xk).set k74 xi)) (by show n - (i + 1) < n - i; omega) ⟨(by show i + 1 ≤ n; omega), (swap_perm hxi hxk hp), (O82.re [1, 2, 4, 0, 3] rfl : Own Z0 W w80 [.blk g11 3 #[.int .i64 ((i + 1 : Nat) : Int)], .blk g2 32 #[.slice A bs.length cl], .blk g22 68 #[.func (.func 51) #[] #[.pointer (some ⟨g11, 0, none⟩), .pointer (some ⟨g2, 0, none⟩)]], .blk g33 3 ((intCs ((vs.set i xk).set k74 xi)).toArray), .ro D (fun w => BytesD D w (.slice A bs.length cl) bs)])⟩ ⟨rfl, rfl, rfl, rfl, rfl, trivial⟩
    · have hie : i = n := by omega
      refine cw_seq (fun FK84 K84 => ?_)
      refine cw_region ?_
      refine wl_val (v := .bool false) (fun ρ e => ex_cmp (u := (i : Int)) (v := (n : Int)) (e _ _ rfl) (e _ _ rfl) (lss0 (by omega))) rfl rfl ?_
      refine wl_nil ?_
      refine xw_next K84 ?_
      refine cw_seq (fun FK85 K85 => ?_)
      refine cw_false rfl ?_
      refine cw_exit ?_
      refine xw_past (by intro h; cases h) ?_
      refine xw_past (by intro h; cases h) ?_
      refine xw_here ?_
      refine xw_next K57 ?_
      refine cw_seq (fun FK86 K86 => ?_)
      refine cw_region ?_
      obtain ⟨g87, w88, r89, O90, hg91, hs92⟩ := own_alloc O63 23 ze23 rfl
      refine wl_val (v := .pointer (some ⟨g87, 0, none⟩)) (fun ρ e => r89 ρ _ _ _ _ _) rfl rfl ?_
      refine wl_nil ?_
      refine xw_next K86 ?_
      refine cw_seq (fun FK93 K93 => ?_)
      refine cw_region ?_
      obtain ⟨g94, w95, r96, O97, hg98, hs99⟩ := own_alloc O90 69 ze69 rfl
      refine wl_val (v := .pointer (some ⟨g94, 0, none⟩)) (fun ρ e => r96 ρ _ _ _ _ _) rfl rfl ?_
      refine wl_nil ?_
      refine xw_next K93 ?_
      refine cw_seq (fun FK100 K100 => ?_)
      refine cw_region ?_
      refine wl_val (v := .func (.func 52) #[] #[.pointer (some ⟨g22, 0, none⟩), .pointer (some ⟨g94, 0, none⟩), .pointer (some ⟨g87, 0, none⟩)]) (fun ρ e => ex_func (us := []) (vs := [.pointer (some ⟨g22, 0, none⟩), .pointer (some ⟨g94, 0, none⟩), .pointer (some ⟨g87, 0, none⟩)]) (e.list rfl) (e.list rfl)) rfl rfl ?_
      obtain ⟨w101, r102, O103, hs104⟩ := own_put (o := 0) (n := 1) O97 ty69 (.func (.func 52) #[] #[.pointer (some ⟨g22, 0, none⟩), .pointer (some ⟨g94, 0, none⟩), .pointer (some ⟨g87, 0, none⟩)]) [.func (.func 52) #[] #[.pointer (some ⟨g22, 0, none⟩), .pointer (some ⟨g94, 0, none⟩), .pointer (some ⟨g87, 0, none⟩)]] (cs' := #[.func (.func 52) #[] #[.pointer (some ⟨g22, 0, none⟩), .pointer (some ⟨g94, 0, none⟩), .pointer (some ⟨g87, 0, none⟩)]]) rfl rfl rfl (Nat.le_of_ble_eq_true rfl) rfl
      refine wl_none (fun ρ e => r102 ρ _ _ _ _ _ _ (e _ _ rfl) (e _ _ rfl)) rfl ?_
      refine wl_nil ?_
      refine xw_next K100 ?_
      refine cw_seq (fun FK105 K105 => ?_)
      refine cw_region ?_
      refine wl_val (v := .func (.func 52) #[] #[.pointer (some ⟨g22, 0, none⟩), .pointer (some ⟨g94, 0, none⟩), .pointer (some ⟨g87, 0, none⟩)]) (fun ρ e => ex_load1 ty69 (e _ _ rfl) (O103.cell 0 0 rfl rfl)) rfl rfl ?_
      refine wl_val (v := .slice (some ⟨g33, 0, none⟩) n n) (fun ρ e => ex_move (e _ _ rfl)) rfl rfl ?_
      refine wl_callv (args := [.slice (some ⟨g33, 0, none⟩) n n]) (all := [.slice (some ⟨g33, 0, none⟩) n n, .pointer (some ⟨g22, 0, none⟩), .pointer (some ⟨g94, 0, none⟩), .pointer (some ⟨g87, 0, none⟩)]) in_52 rfl rfl rfl rfl rfl ?_
      have O106 : Own Z0 W w101 [.row (.slice none 0 0) 38 3 0 (ncells []), .blk g94 69 #[.func (.func 52) #[] #[.pointer (some ⟨g22, 0, none⟩), .pointer (some ⟨g94, 0, none⟩), .pointer (some ⟨g87, 0, none⟩)]], .blk g87 23 #[.slice none 0 0], .blk g11 3 #[.int .i64 (i : Int)], .blk g2 32 #[.slice A bs.length cl], .blk g22 68 #[.func (.func 51) #[] #[.pointer (some ⟨g11, 0, none⟩), .pointer (some ⟨g2, 0, none⟩)]], .blk g33 3 ((intCs vs).toArray), .ro D (fun w => BytesD D w (.slice A bs.length cl) bs)] := O103.nilrow 38 3
      have hL : vs.length = n := hlen
      have O114h := Own.hand (A := [.blk g11 3 #[.int .i64 (i : Int)], .blk g2 32 #[.slice A bs.length cl], .blk g22 68 #[.func (.func 51) #[] #[.pointer (some ⟨g11, 0, none⟩), .pointer (some ⟨g2, 0, none⟩)]], .blk g94 69 #[.func (.func 52) #[] #[.pointer (some ⟨g22, 0, none⟩), .pointer (some ⟨g94, 0, none⟩), .pointer (some ⟨g87, 0, none⟩)]], .blk g87 23 #[.slice none 0 0], .row (.slice none 0 0) 38 3 0 (ncells []), .blk g33 3 ((intCs vs).toArray), .ro D (fun w => BytesD D w (.slice A bs.length cl) bs)]) (R := []) (O106.re [3, 4, 5, 1, 2, 0, 6, 7] rfl : Own Z0 W w101 [.blk g11 3 #[.int .i64 (i : Int)], .blk g2 32 #[.slice A bs.length cl], .blk g22 68 #[.func (.func 51) #[] #[.pointer (some ⟨g11, 0, none⟩), .pointer (some ⟨g2, 0, none⟩)]], .blk g94 69 #[.func (.func 52) #[] #[.pointer (some ⟨g22, 0, none⟩), .pointer (some ⟨g94, 0, none⟩), .pointer (some ⟨g87, 0, none⟩)]], .blk g87 23 #[.slice none 0 0], .row (.slice none 0 0) 38 3 0 (ncells []), .blk g33 3 ((intCs vs).toArray), .ro D (fun w => BytesD D w (.slice A bs.length cl) bs)])
      refine (gpart_ hbs n 0 n n (by rw [hL]; omega) (by omega) (by omega) (by omega) _ _ _ _ _ _ [] i O114h (by omega) (by omega)).mono ?_
      rintro _ w112 ⟨T107, A110, c111, hlv108, hsz109, rfl, h113⟩
      have O114 : Own Z0 W w112 [.blk g11 3 #[.int .i64 ((i + (n - 1) : Nat) : Int)], .blk g2 32 #[.slice A bs.length cl], .blk g22 68 #[.func (.func 51) #[] #[.pointer (some ⟨g11, 0, none⟩), .pointer (some ⟨g2, 0, none⟩)]], .blk g94 69 #[.func (.func 52) #[] #[.pointer (some ⟨g22, 0, none⟩), .pointer (some ⟨g94, 0, none⟩), .pointer (some ⟨g87, 0, none⟩)]], .blk g87 23 #[.slice A110 (0 + (2 * n - 1)) c111], .row (.slice A110 (0 + (2 * n - 1)) c111) 38 3 (0 + (2 * n - 1)) (ncells ([] ++ post T107 0)), .blk g33 3 ((intCs vs).toArray), .ro D (fun w => BytesD D w (.slice A bs.length cl) bs)] := Own.frame (A := [.blk g11 3 #[.int .i64 (i : Int)], .blk g2 32 #[.slice A bs.length cl], .blk g22 68 #[.func (.func 51) #[] #[.pointer (some ⟨g11, 0, none⟩), .pointer (some ⟨g2, 0, none⟩)]], .blk g94 69 #[.func (.func 52) #[] #[.pointer (some ⟨g22, 0, none⟩), .pointer (some ⟨g94, 0, none⟩), .pointer (some ⟨g87, 0, none⟩)]], .blk g87 23 #[.slice none 0 0], .row (.slice none 0 0) 38 3 0 (ncells []), .blk g33 3 ((intCs vs).toArray), .ro D (fun w => BytesD D w (.slice A bs.length cl) bs)]) (R := []) (O106.re [3, 4, 5, 1, 2, 0, 6, 7] rfl : Own Z0 W w101 [.blk g11 3 #[.int .i64 (i : Int)], .blk g2 32 #[.slice A bs.length cl], .blk g22 68 #[.func (.func 51) #[] #[.pointer (some ⟨g11, 0, none⟩), .pointer (some ⟨g2, 0, none⟩)]], .blk g94 69 #[.func (.func 52) #[] #[.pointer (some ⟨g22, 0, none⟩), .pointer (some ⟨g94, 0, none⟩), .pointer (some ⟨g87, 0, none⟩)]], .blk g87 23 #[.slice none 0 0], .row (.slice none 0 0) 38 3 0 (ncells []), .blk g33 3 ((intCs vs).toArray), .ro D (fun w => BytesD D w (.slice A bs.length cl) bs)]) h113
      refine ⟨_, rfl, ?_⟩
      refine wl_nil ?_
      refine xw_next K105 ?_
      refine cw_seq (fun FK115 K115 => ?_)
      refine cw_region ?_
      refine wl_val (v := .slice A110 (0 + (2 * n - 1)) c111) (fun ρ e => ex_load1 ty23 (e _ _ rfl) (O114.cell 4 0 rfl rfl)) rfl rfl ?_
      refine wl_val (v := .slice A110 (0 + (2 * n - 1)) c111) (fun ρ e => ex_assign (e _ _ rfl)) rfl rfl ?_
      refine wl_nil ?_
      refine xw_next K115 ?_
      refine cw_ret ?_
      refine xw_ret (v := .slice A110 (0 + (2 * n - 1)) c111) (fun T hT => res1 rfl T _ (hT 4 _ rfl)) ?_
      have hlv : T107.leaves = vs := by rw [hlv108, List.drop_zero]; exact List.take_of_length_le (by omega)
      have hO := (O114.re [5] rfl : Own Z0 W w112 [.row (.slice A110 (0 + (2 * n - 1)) c111) 38 3 (0 + (2 * n - 1)) (ncells ([] ++ post T107 0))])
      rw [Nat.zero_add, List.nil_append, ← hsz109] at hO
      exact ⟨T107, A110, c111, ⟨hlv ▸ (hp.nodup_iff.2 (numL_nodup n)), fun v hv => numL_in (by omega) (hp.mem_iff.1 (hlv ▸ hv))⟩, by rw [hlv, hlen, hn, ← hk9], by rw [Nat.zero_add, hsz109], hO⟩

end Go.Proofs.YtpeoodkepjhhiaaDoor
namespace Go.Proofs.YtpeoodkepjhhiaaDoor
open Go Go.ChangeShapes Go.WideShapes Go.ChangeAt Go.RowKit Go.Deep Go.Joins
section
variable {H : Type} {enc : TypeId × Value → H} {W : World} {held : Bool}
theorem open_bytesD {fuel : Nat} {cs : List Value} {x : DataW H × List MemPlace} (h : DataW.trod enc Tryd.prog W 0 (fun _ => true) held fuel 32 cs = some x) :
    ∃ v bs, cs = [v] ∧ BytesD (fun k => k < W.heap.size) W v bs := by
  rcases open_ints Tryd.underlying32 Tryd.underlying5 (by kernel_rfl) h with ⟨rfl, rfl⟩ | ⟨a, len, cap, zs, rfl, _, hl, hm, hz, rfl, hc, hw⟩
  · exact ⟨_, [], rfl, none, 0, rfl, by simp, by unfold maxLen; omega, fun h => by simp at h⟩
  · simp only [if_true] at hz
    have hlen : ((zs.take len).map Int.toNat).length = len := by rw [List.length_map, List.length_take]; omega
    refine ⟨_, (zs.take len).map Int.toNat, rfl, some a, cap, by rw [hlen], by rw [hlen]; exact hl, hm, fun hp => ?_⟩
    have h0 := hc 0 (by omega)
    have ha : a.add 0 = a := by simp [Addr.add]
    rw [ha] at h0
    have he := addr_eta h0
    refine ⟨a.block, a.off, block_lt h0, by rw [← he], fun i y hy => ?_⟩
    have hi : i < len := by
      have := (List.getElem?_eq_some_iff.1 hy).1
      omega
    have h1 := hc i (by omega)
    rw [he, addr_add] at h1
    rw [List.getElem?_map, List.getElem?_take_of_lt hi] at hy
    obtain ⟨z, hz2, rfl⟩ := Option.map_eq_some_iff.1 hy
    rw [List.getD_eq_getElem?_getD, hz2] at h1
    have hwz := hw z (List.mem_of_getElem? hz2)
    simp [Lit.wf] at hwz
    have e1 : IntKind.u8.min = 0 := rfl
    have e2 : IntKind.u8.max = 255 := rfl
    rw [e1, e2] at hwz
    have e3 : ((z.toNat : Nat) : Int) = z := by omega
    rw [e3]
    exact ⟨by simpa using h1, by omega⟩
set_option maxRecDepth 100000 in
theorem open_bl {r : Reach} {b0 : Nat} {v : Value} {d : DataW H} {p : List MemPlace} (hv : Value.okWide Tryd.prog W r b0 32 v) (h : DataW.Trod enc Tryd.prog W 0 (fun _ => true) held 32 v d p) : ∃ bs, BytesD (fun k => k < W.heap.size) W v bs := by
  obtain ⟨fuel, hf⟩ := h
  rw [slice_cells Tryd.underlying32 hv] at hf
  obtain ⟨v', bs, h1, h2⟩ := open_bytesD hf
  injection h1 with h1 _
  exact ⟨bs, h1 ▸ h2⟩
end
theorem byte_nat {x : Int} (h : (Lit.int .u8 x).wf = true) : ∃ n : Nat, n ≤ 255 ∧ x = (n : Int) := by
  simp [Lit.wf] at h
  have e1 : IntKind.u8.min = 0 := rfl
  have e2 : IntKind.u8.max = 255 := rfl
  rw [e1, e2] at h
  exact ⟨x.toNat, by omega, by omega⟩
end Go.Proofs.YtpeoodkepjhhiaaDoor
namespace Go.Proofs.YtpeoodkepjhhiaaDoor
open Go Go.RowKit
theorem lsame_ {W : World} {D D2 : Nat → Prop} {V V2 : Value} {ts : List VN} (hN : NodesD D W V ts) (hD : ∀ k, D k → k < W.heap.size) (hN2 : NodesD D2 W V2 ts) (hD2 : ∀ k, D2 k → k < W.heap.size) : Calls Tryd.prog 22 #[V, V2] W fun e w' => e = .returned (.bool true) ∧ Below W.heap.size W w' := by
  obtain ⟨A, c, rfl⟩ := hN.slice
  obtain ⟨A2, c2, rfl⟩ := hN2.slice
  have hmx : maxLen = 9223372036854775807 := rfl
  have hcap := hN.cap
  rcases Nat.eq_zero_or_pos ts.length with h0 | h0
  · skip
    have O0 : Own Z0 W W [] := Own.start W
    refine sx_enter (args := [.slice A ts.length c, .slice A2 ts.length c2]) Tryd.func22 rfl rfl (by simp) ?_
    refine cw_seq (fun FK1 K1 => ?_)
    refine cw_region ?_
    refine wl_val (v := .bool false) (fun ρ e => ex_assign (e _ _ rfl)) rfl rfl ?_
    refine wl_nil ?_
    refine xw_next K1 ?_
    refine cw_seq (fun FK2 K2 => ?_)
    refine cw_seq (fun FK3 K3 => ?_)
    refine cw_region ?_
    refine wl_val (v := .slice A ts.length c) (fun ρ e => ex_move (e _ _ rfl)) rfl rfl ?_
    refine wl_val (v := .int .i64 ((ts.length : Nat) : Int)) (fun ρ e => ex_len el23 (e _ _ rfl)) rfl rfl ?_
    refine wl_val (v := .slice A2 ts.length c2) (fun ρ e => ex_move (e _ _ rfl)) rfl rfl ?_
    refine wl_val (v := .int .i64 ((ts.length : Nat) : Int)) (fun ρ e => ex_len el23 (e _ _ rfl)) rfl rfl ?_
    refine wl_val (v := .bool false) (fun ρ e => ex_cmp (u := ((ts.length : Nat) : Int)) (v := ((ts.length : Nat) : Int)) (e _ _ rfl) (e _ _ rfl) (neq0 rfl)) rfl rfl ?_
    refine wl_nil ?_
    refine xw_next K3 ?_
    refine cw_false rfl ?_
    refine cw_skip ?_
    refine xw_next K2 ?_
    refine cw_seq (fun FK4 K4 => ?_)
    refine cw_seq (fun FK5 K5 => ?_)
    refine cw_region ?_
    refine wl_val (v := .slice A ts.length c) (fun ρ e => ex_move (e _ _ rfl)) rfl rfl ?_
    refine wl_val (v := .int .i64 ((ts.length : Nat) : Int)) (fun ρ e => ex_len el23 (e _ _ rfl)) rfl rfl ?_
    refine wl_val (v := .int .i64 0) (fun ρ e => ex_move (e _ _ rfl)) rfl rfl ?_
    refine wl_nil ?_
    refine xw_next K5 ?_
    refine cw_block ?_
    refine cw_loop (ι := Nat) (fun q => [(0, .slice A ts.length c), (1, .slice A2 ts.length c2), (12, .int .i64 ((ts.length : Nat) : Int)), (13, .int .i64 (q : Int))]) (fun q X => (q ≤ ts.length) ∧ Own Z0 W X []) (fun q => ts.length - q) 0 ⟨Nat.zero_le _, O0⟩ ⟨rfl, rfl, rfl, rfl, trivial⟩ (fun q w6 hJ F7 K8 => ?_)
    obtain ⟨i, rfl⟩ : ∃ x, x = q := ⟨_, rfl⟩
    obtain ⟨hi0, O9⟩ := hJ
    try dsimp only at hi0 O9 ⊢
    by_cases hi : i < ts.length
    · skip
      exact absurd hi (by omega)
    · skip
      refine cw_seq (fun FK10 K10 => ?_)
      refine cw_region ?_
      refine wl_val (v := .bool false) (fun ρ e => ex_cmp (u := (i : Int)) (v := ((ts.length : Nat) : Int)) (e _ _ rfl) (e _ _ rfl) (lss0 (by omega))) rfl rfl ?_
      refine wl_nil ?_
      refine xw_next K10 ?_
      refine cw_seq (fun FK11 K11 => ?_)
      refine cw_false rfl ?_
      refine cw_exit ?_
      refine xw_past (by intro h; cases h) ?_
      refine xw_past (by intro h; cases h) ?_
      refine xw_here ?_
      refine xw_next K4 ?_
      refine cw_seq (fun FK12 K12 => ?_)
      refine cw_region ?_
      refine wl_val (v := .bool true) (fun ρ e => ex_assign (e _ _ rfl)) rfl rfl ?_
      refine wl_nil ?_
      refine xw_next K12 ?_
      refine cw_ret ?_
      refine xw_ret (v := .bool true) (fun T hT => res1 rfl T _ (hT 4 _ rfl)) ?_
      exact ⟨rfl, O9.old⟩
  · obtain ⟨b, o, c', hv, hDb⟩ := hN.form h0
    injection hv with hA _ hc
    subst hA hc
    obtain ⟨b3, o3, c', hv, hDb2⟩ := hN2.form h0
    injection hv with hA _ hc
    subst hA hc
    have O0 : Own Z0 W W [.ro D (fun w => NodesD D w (.slice (some ⟨b, o, none⟩) ts.length c) ts), .ro D2 (fun w => NodesD D2 w (.slice (some ⟨b3, o3, none⟩) ts.length c2) ts)] := ((Own.start W).oldro (D := D2) (p := (fun w => NodesD D2 w (.slice (some ⟨b3, o3, none⟩) ts.length c2) ts)) (nodesE_holds hN2 hD2)).oldro (D := D) (p := (fun w => NodesD D w (.slice (some ⟨b, o, none⟩) ts.length c) ts)) (nodesE_holds hN hD)
    refine sx_enter (args := [.slice (some ⟨b, o, none⟩) ts.length c, .slice (some ⟨b3, o3, none⟩) ts.length c2]) Tryd.func22 rfl rfl (by simp) ?_
    refine cw_seq (fun FK13 K13 => ?_)
    refine cw_region ?_
    refine wl_val (v := .bool false) (fun ρ e => ex_assign (e _ _ rfl)) rfl rfl ?_
    refine wl_nil ?_
    refine xw_next K13 ?_
    refine cw_seq (fun FK14 K14 => ?_)
    refine cw_seq (fun FK15 K15 => ?_)
    refine cw_region ?_
    refine wl_val (v := .slice (some ⟨b, o, none⟩) ts.length c) (fun ρ e => ex_move (e _ _ rfl)) rfl rfl ?_
    refine wl_val (v := .int .i64 ((ts.length : Nat) : Int)) (fun ρ e => ex_len el23 (e _ _ rfl)) rfl rfl ?_
    refine wl_val (v := .slice (some ⟨b3, o3, none⟩) ts.length c2) (fun ρ e => ex_move (e _ _ rfl)) rfl rfl ?_
    refine wl_val (v := .int .i64 ((ts.length : Nat) : Int)) (fun ρ e => ex_len el23 (e _ _ rfl)) rfl rfl ?_
    refine wl_val (v := .bool false) (fun ρ e => ex_cmp (u := ((ts.length : Nat) : Int)) (v := ((ts.length : Nat) : Int)) (e _ _ rfl) (e _ _ rfl) (neq0 rfl)) rfl rfl ?_
    refine wl_nil ?_
    refine xw_next K15 ?_
    refine cw_false rfl ?_
    refine cw_skip ?_
    refine xw_next K14 ?_
    refine cw_seq (fun FK16 K16 => ?_)
    refine cw_seq (fun FK17 K17 => ?_)
    refine cw_region ?_
    refine wl_val (v := .slice (some ⟨b, o, none⟩) ts.length c) (fun ρ e => ex_move (e _ _ rfl)) rfl rfl ?_
    refine wl_val (v := .int .i64 ((ts.length : Nat) : Int)) (fun ρ e => ex_len el23 (e _ _ rfl)) rfl rfl ?_
    refine wl_val (v := .int .i64 0) (fun ρ e => ex_move (e _ _ rfl)) rfl rfl ?_
    refine wl_nil ?_
    refine xw_next K17 ?_
    refine cw_block ?_
    refine cw_loop (ι := Nat) (fun q => [(0, .slice (some ⟨b, o, none⟩) ts.length c), (1, .slice (some ⟨b3, o3, none⟩) ts.length c2), (12, .int .i64 ((ts.length : Nat) : Int)), (13, .int .i64 (q : Int))]) (fun q X => (q ≤ ts.length) ∧ Own Z0 W X [.ro D (fun w => NodesD D w (.slice (some ⟨b, o, none⟩) ts.length c) ts), .ro D2 (fun w => NodesD D2 w (.slice (some ⟨b3, o3, none⟩) ts.length c2) ts)]) (fun q => ts.length - q) 0 ⟨Nat.zero_le _, O0⟩ ⟨rfl, rfl, rfl, rfl, trivial⟩ (fun q w18 hJ F19 K20 => ?_)
    obtain ⟨i, rfl⟩ : ∃ x, x = q := ⟨_, rfl⟩
    obtain ⟨hi0, O21⟩ := hJ
    try dsimp only at hi0 O21 ⊢
    by_cases hi : i < ts.length
    · skip
      obtain ⟨⟨xl, xr, xv⟩, hx⟩ : ∃ x, ts[i]? = some x := ⟨ts[i], List.getElem?_eq_getElem hi⟩
      refine cw_seq (fun FK22 K22 => ?_)
      refine cw_region ?_
      refine wl_val (v := .bool true) (fun ρ e => ex_cmp (u := (i : Int)) (v := ((ts.length : Nat) : Int)) (e _ _ rfl) (e _ _ rfl) (lss1 (by omega))) rfl rfl ?_
      refine wl_nil ?_
      refine xw_next K22 ?_
      refine cw_seq (fun FK23 K23 => ?_)
      refine cw_true rfl ?_
      refine cw_skip ?_
      refine xw_next K23 ?_
      refine cw_seq (fun FK24 K24 => ?_)
      refine cw_block ?_
      refine cw_seq (fun FK25 K25 => ?_)
      refine cw_region ?_
      refine wl_val (v := .int .i64 (i : Int)) (fun ρ e => ex_move (e _ _ rfl)) rfl rfl ?_
      refine wl_val (v := .int .i64 (i : Int)) (fun ρ e => ex_assign (e _ _ rfl)) rfl rfl ?_
      refine wl_nil ?_
      refine xw_next K25 ?_
      refine cw_seq (fun FK26 K26 => ?_)
      refine cw_drawn (fun X => Own Z0 W X [.ro D (fun w => NodesD D w (.slice (some ⟨b, o, none⟩) ts.length c) ts), .ro D2 (fun w => NodesD D2 w (.slice (some ⟨b3, o3, none⟩) ts.length c2) ts)]) 9 [(0, 1), (1, 1), (2, 1), (3, 0), (4, 1), (5, 1), (6, 1), (7, 0), (8, 1)] (by kernel_rfl) (by kernel_rfl) (PQ.then_ (PQ.block (PQ.then_ (PQ.then_ (PQ.block (PQ.then_ PQ.body)))))) (O21).drew ?_
      have O27 : Own Z0 W w18.drew [.ro D (fun w => NodesD D w (.slice (some ⟨b, o, none⟩) ts.length c) ts), .ro D2 (fun w => NodesD D2 w (.slice (some ⟨b3, o3, none⟩) ts.length c2) ts)] := O21.drew
      refine wt1 (v := .slice (some ⟨b, o, none⟩) ts.length c) rfl (fun ρ e W => ex_move (e _ _ rfl)) rfl rfl ?_
      refine wt1 (v := .int .i64 (i : Int)) rfl (fun ρ e W => ex_move (e _ _ rfl)) rfl rfl ?_
      refine wt1 (v := .pointer (some ⟨b, o + i * 3, none⟩)) rfl (fun ρ e W => ex_idx (q := o + i * 3) (i := i) el23 (e _ _ rfl) (e _ _ rfl) (by omega) (by omega)) rfl rfl ?_
      refine wt0 (v := .agg #[.int .i64 xl, .int .i64 xr, .int .i64 xv]) rfl (fun ρ e W hW => ex_loadN (vs := [.int .i64 xl, .int .i64 xr, .int .i64 xv]) ty38 (e _ _ rfl) rfl (cells3 (NodesD.c0 ((hW.ro 0 rfl : (fun w => NodesD D w (.slice (some ⟨b, o, none⟩) ts.length c) ts) _) : NodesD _ _ _ _) hx) (NodesD.c1 ((hW.ro 0 rfl : (fun w => NodesD D w (.slice (some ⟨b, o, none⟩) ts.length c) ts) _) : NodesD _ _ _ _) hx) (NodesD.c2 ((hW.ro 0 rfl : (fun w => NodesD D w (.slice (some ⟨b, o, none⟩) ts.length c) ts) _) : NodesD _ _ _ _) hx))) rfl rfl ?_
      refine wt1 (v := .slice (some ⟨b3, o3, none⟩) ts.length c2) rfl (fun ρ e W => ex_move (e _ _ rfl)) rfl rfl ?_
      refine wt1 (v := .int .i64 (i : Int)) rfl (fun ρ e W => ex_move (e _ _ rfl)) rfl rfl ?_
      refine wt1 (v := .pointer (some ⟨b3, o3 + i * 3, none⟩)) rfl (fun ρ e W => ex_idx (q := o3 + i * 3) (i := i) el23 (e _ _ rfl) (e _ _ rfl) (by omega) (by omega)) rfl rfl ?_
      refine wt0 (v := .agg #[.int .i64 xl, .int .i64 xr, .int .i64 xv]) rfl (fun ρ e W hW => ex_loadN (vs := [.int .i64 xl, .int .i64 xr, .int .i64 xv]) ty38 (e _ _ rfl) rfl (cells3 (NodesD.c0 ((hW.ro 1 rfl : (fun w => NodesD D2 w (.slice (some ⟨b3, o3, none⟩) ts.length c2) ts) _) : NodesD _ _ _ _) hx) (NodesD.c1 ((hW.ro 1 rfl : (fun w => NodesD D2 w (.slice (some ⟨b3, o3, none⟩) ts.length c2) ts) _) : NodesD _ _ _ _) hx) (NodesD.c2 ((hW.ro 1 rfl : (fun w => NodesD D2 w (.slice (some ⟨b3, o3, none⟩) ts.length c2) ts) _) : NodesD _ _ _ _) hx))) rfl rfl ?_
      refine wt1 (v := .bool false) rfl (fun ρ e W => ex_neN (a := (VN.mk xl xr xv)) (b := (VN.mk xl xr xv)) (e _ _ rfl) (e _ _ rfl) (by rw [decide_eq_true rfl]; rfl)) rfl rfl ?_
      refine wt_nil ?_
      refine xw_next K26 ?_
      refine cw_false rfl ?_
      refine cw_skip ?_
      refine xw_block ?_
      refine xw_next K24 ?_
      refine cw_region ?_
      refine wl_val (v := .int .i64 ((i + 1 : Nat) : Int)) (fun ρ e => ex_arith (k := .i64) (u := (i : Int)) (v := 1) (e _ _ rfl) (e _ _ rfl) (congrArg some ((congrArg _ (by omega)).trans (wrap_in (u := ((i + 1 : Nat) : Int)) (by omega) (by omega))))) rfl rfl ?_
      refine wl_val (v := .int .i64 ((i + 1 : Nat) : Int)) (fun ρ e => ex_move (e _ _ rfl)) rfl rfl ?_
      refine wl_nil ?_
      refine xw_round K20 (i + 1) (by show ts.length - (i + 1) < ts.length - i; omega) ⟨(by show i + 1 ≤ ts.length; omega), O27⟩ ⟨rfl, rfl, rfl, rfl, trivial⟩
    · skip
      refine cw_seq (fun FK28 K28 => ?_)
      refine cw_region ?_
      refine wl_val (v := .bool false) (fun ρ e => ex_cmp (u := (i : Int)) (v := ((ts.length : Nat) : Int)) (e _ _ rfl) (e _ _ rfl) (lss0 (by omega))) rfl rfl ?_
      refine wl_nil ?_
      refine xw_next K28 ?_
      refine cw_seq (fun FK29 K29 => ?_)
      refine cw_false rfl ?_
      refine cw_exit ?_
      refine xw_past (by intro h; cases h) ?_
      refine xw_past (by intro h; cases h) ?_
      refine xw_here ?_
      refine xw_next K16 ?_
      refine cw_seq (fun FK30 K30 => ?_)
      refine cw_region ?_
      refine wl_val (v := .bool true) (fun ρ e => ex_assign (e _ _ rfl)) rfl rfl ?_
      refine wl_nil ?_
      refine xw_next K30 ?_
      refine cw_ret ?_
      refine xw_ret (v := .bool true) (fun T hT => res1 rfl T _ (hT 4 _ rfl)) ?_
      exact ⟨rfl, O21.old⟩
def leavesOf (ts : List VN) : List Int := (ts.map (·.v)).filter fun v => decide (v ≠ 0)
def lvT (ts : List VN) (i : Nat) : List Int := leavesOf (ts.take i)
end Go.Proofs.YtpeoodkepjhhiaaDoor
