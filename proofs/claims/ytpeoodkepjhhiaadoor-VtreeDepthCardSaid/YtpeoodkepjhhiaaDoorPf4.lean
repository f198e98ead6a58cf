/-
  Lemmas and contracts, joined: Vbuild Vworks Post Open Post2 Vopen Vgt Vgrow Vopen2 Vleaves Vch Vdp Vgt2 Vrchk Vrpar Vvs Vvars.
-/
import Derived.Test.YtpeoodkepjhhiaaDoorPf3
import Derived.Test.YtpeoodkepjhhiaaDoorRows
import Derived.WalkKit
import Derived.ProofKit
import Derived.OpenShut
import Derived.Below
import Derived.ChangeSame
import Derived.Test.YtpeoodkepjhhiaaDoorPf1
import Derived.Carry
import Derived.Deep.Slices
import Derived.Deep.Fields
import Derived.Lib.SmallJoins
import Derived.DataReads
import Derived.Test.YtpeoodkepjhhiaaDoorCards
import Derived.Test.YtpeoodkepjhhiaaDoorTie
import Derived.Lib.LaidU8
import Derived.LaidMore
import Derived.Lay
import Derived.Stop.Joined
import Derived.Test.YtpeoodkepjhhiaaDoorPf2
namespace Go.Proofs.YtpeoodkepjhhiaaDoor
open Go Go.RowKit
theorem IntsD.cellq {D : Nat → Prop} {w : World} {b o n c k : Nat} {xs : List Int} {x : Int} (h : IntsD D w (.slice (some ⟨b, o, none⟩) n c) xs) (hk : xs[k]? = some x) : w.cell? ⟨b, o + k, none⟩ = some (.int .i64 x) := by
  obtain ⟨hl, rfl⟩ := List.getElem?_eq_some_iff.1 hk
  exact h.cell hl
theorem ordered_ {W : World} {D : Nat → Prop} {V : Value} {l : List Int} (hI : IntsD D W V l) (hD : ∀ k, D k → k < W.heap.size) (hsz : l.length ≤ 1000000) :
    Calls Tryd.prog 75 #[V] W fun e w' => e = .returned (.bool (ordB l)) ∧ Below W.heap.size W w' := by
  obtain ⟨A, c, rfl⟩ := hI.slice
  rcases Nat.eq_zero_or_pos l.length with h0 | h0
  · skip
    have O0 : Own Z0 W W [] := Own.start W
    refine sx_enter (args := [.slice A l.length c]) Tryd.func75 rfl rfl (by simp) ?_
    refine cw_seq (fun FK1 K1 => ?_)
    refine cw_region ?_
    refine wl_val (v := .bool false) (fun ρ e => ex_assign (e _ _ rfl)) rfl rfl ?_
    refine wl_nil ?_
    refine xw_next K1 ?_
    refine cw_seq (fun FK2 K2 => ?_)
    refine cw_region ?_
    obtain ⟨g3, w4, r5, O6, hg7, hs8⟩ := own_alloc O0 70 ze70 (cs := (boolCs (flagL 129 [])).toArray) (by rw [flagL_nil]; simp [boolCs, Value.cells])
    refine wl_val (v := .pointer (some ⟨g3, 0, none⟩)) (fun ρ e => r5 ρ _ _ _ _ _) rfl rfl ?_
    refine wl_nil ?_
    refine xw_next K2 ?_
    refine cw_seq (fun FK9 K9 => ?_)
    refine cw_seq (fun FK10 K10 => ?_)
    refine cw_region ?_
    refine wl_val (v := .slice A l.length c) (fun ρ e => ex_move (e _ _ rfl)) rfl rfl ?_
    refine wl_val (v := .int .i64 ((l.length : Nat) : Int)) (fun ρ e => ex_len el36 (e _ _ rfl)) rfl rfl ?_
    refine wl_val (v := .int .i64 0) (fun ρ e => ex_move (e _ _ rfl)) rfl rfl ?_
    refine wl_nil ?_
    refine xw_next K10 ?_
    refine cw_block ?_
    have O11 : Own Z0 W w4 [.blk g3 70 ((boolCs (flagL 129 [])).toArray)] := O6
    refine cw_loop (ι := Nat) (fun q => [(0, .slice A l.length c), (3, .pointer (some ⟨g3, 0, none⟩)), (6, .slice A l.length c), (7, .int .i64 ((l.length : Nat) : Int)), (8, .int .i64 (q : Int))]) (fun q X => (q ≤ l.length) ∧ (opreB (l.take q) = true) ∧ Own Z0 W X [.blk g3 70 ((boolCs (flagL 129 (l.take q))).toArray)]) (fun q => l.length - q) 0 ⟨Nat.zero_le _, (by rw [List.take_zero]; rfl), O11⟩ ⟨rfl, rfl, rfl, rfl, rfl, trivial⟩ (fun q w12 hJ F13 K14 => ?_)
    obtain ⟨i, rfl⟩ : ∃ x, x = q := ⟨_, rfl⟩
    obtain ⟨hi0, hp, O15⟩ := hJ
    try dsimp only at hi0 hp O15 ⊢
    by_cases hi : i < l.length
    · skip
      exact absurd hi (by omega)
    · have hie : i = l.length := by omega
      refine cw_seq (fun FK16 K16 => ?_)
      refine cw_region ?_
      refine wl_val (v := .bool false) (fun ρ e => ex_cmp (u := (i : Int)) (v := ((l.length : Nat) : Int)) (e _ _ rfl) (e _ _ rfl) (lss0 (by omega))) rfl rfl ?_
      refine wl_nil ?_
      refine xw_next K16 ?_
      refine cw_seq (fun FK17 K17 => ?_)
      refine cw_false rfl ?_
      refine cw_exit ?_
      refine xw_past (by intro h; cases h) ?_
      refine xw_past (by intro h; cases h) ?_
      refine xw_here ?_
      refine xw_next K9 ?_
      refine cw_seq (fun FK18 K18 => ?_)
      refine cw_region ?_
      refine wl_val (v := .slice A l.length c) (fun ρ e => ex_move (e _ _ rfl)) rfl rfl ?_
      refine wl_val (v := .int .i64 ((l.length : Nat) : Int)) (fun ρ e => ex_len el36 (e _ _ rfl)) rfl rfl ?_
      refine wl_val (v := .bool false) (fun ρ e => ex_cmp (u := ((l.length : Nat) : Int)) (v := 0) (e _ _ rfl) (e _ _ rfl) (gtr0 (by omega))) rfl rfl ?_
      refine wl_val (v := .bool false) (fun ρ e => ex_assign (e _ _ rfl)) rfl rfl ?_
      refine wl_nil ?_
      refine xw_next K18 ?_
      refine cw_ret ?_
      refine xw_ret (v := .bool false) (fun T hT => res1 rfl T _ (hT 2 _ rfl)) ?_
      rw [hie, List.take_length] at hp
      have hr : ordB l = false := Bool.eq_false_iff.2 fun q => by have := (ordB_iff.1 q).1; omega
      rw [hr]
      exact ⟨rfl, O15.old⟩
  · obtain ⟨b, o, c', hv0⟩ := hI.form h0
    injection hv0 with hA _ hc
    subst hA hc
    have O0 : Own Z0 W W [.ro D (fun w => IntsD D w (.slice (some ⟨b, o, none⟩) l.length c) l)] := (Own.start W).oldro (D := D) (p := (fun w => IntsD D w (.slice (some ⟨b, o, none⟩) l.length c) l)) (inE_holds hI hD)
    refine sx_enter (args := [.slice (some ⟨b, o, none⟩) l.length c]) Tryd.func75 rfl rfl (by simp) ?_
    refine cw_seq (fun FK19 K19 => ?_)
    refine cw_region ?_
    refine wl_val (v := .bool false) (fun ρ e => ex_assign (e _ _ rfl)) rfl rfl ?_
    refine wl_nil ?_
    refine xw_next K19 ?_
    refine cw_seq (fun FK20 K20 => ?_)
    refine cw_region ?_
    obtain ⟨g21, w22, r23, O24, hg25, hs26⟩ := own_alloc O0 70 ze70 (cs := (boolCs (flagL 129 [])).toArray) (by rw [flagL_nil]; simp [boolCs, Value.cells])
    refine wl_val (v := .pointer (some ⟨g21, 0, none⟩)) (fun ρ e => r23 ρ _ _ _ _ _) rfl rfl ?_
    refine wl_nil ?_
    refine xw_next K20 ?_
    refine cw_seq (fun FK27 K27 => ?_)
    refine cw_seq (fun FK28 K28 => ?_)
    refine cw_region ?_
    refine wl_val (v := .slice (some ⟨b, o, none⟩) l.length c) (fun ρ e => ex_move (e _ _ rfl)) rfl rfl ?_
    refine wl_val (v := .int .i64 ((l.length : Nat) : Int)) (fun ρ e => ex_len el36 (e _ _ rfl)) rfl rfl ?_
    refine wl_val (v := .int .i64 0) (fun ρ e => ex_move (e _ _ rfl)) rfl rfl ?_
    refine wl_nil ?_
    refine xw_next K28 ?_
    refine cw_block ?_
    have O29 : Own Z0 W w22 [.blk g21 70 ((boolCs (flagL 129 [])).toArray), .ro D (fun w => IntsD D w (.slice (some ⟨b, o, none⟩) l.length c) l)] := O24
    refine cw_loop (ι := Nat) (fun q => [(0, .slice (some ⟨b, o, none⟩) l.length c), (3, .pointer (some ⟨g21, 0, none⟩)), (6, .slice (some ⟨b, o, none⟩) l.length c), (7, .int .i64 ((l.length : Nat) : Int)), (8, .int .i64 (q : Int))]) (fun q X => (q ≤ l.length) ∧ (opreB (l.take q) = true) ∧ Own Z0 W X [.blk g21 70 ((boolCs (flagL 129 (l.take q))).toArray), .ro D (fun w => IntsD D w (.slice (some ⟨b, o, none⟩) l.length c) l)]) (fun q => l.length - q) 0 ⟨Nat.zero_le _, (by rw [List.take_zero]; rfl), O29⟩ ⟨rfl, rfl, rfl, rfl, rfl, trivial⟩ (fun q w30 hJ F31 K32 => ?_)
    obtain ⟨i, rfl⟩ : ∃ x, x = q := ⟨_, rfl⟩
    obtain ⟨hi0, hp, O33⟩ := hJ
    try dsimp only at hi0 hp O33 ⊢
    by_cases hi : i < l.length
    · skip
      obtain ⟨v, hv⟩ : ∃ v, l[i]? = some v := ⟨l[i], List.getElem?_eq_getElem hi⟩
      have htk : l.take (i + 1) = l.take i ++ [v] := take_more hv
      refine cw_seq (fun FK34 K34 => ?_)
      refine cw_region ?_
      refine wl_val (v := .bool true) (fun ρ e => ex_cmp (u := (i : Int)) (v := ((l.length : Nat) : Int)) (e _ _ rfl) (e _ _ rfl) (lss1 (by omega))) rfl rfl ?_
      refine wl_nil ?_
      refine xw_next K34 ?_
      refine cw_seq (fun FK35 K35 => ?_)
      refine cw_true rfl ?_
      refine cw_skip ?_
      refine xw_next K35 ?_
      refine cw_seq (fun FK36 K36 => ?_)
      refine cw_block ?_
      refine cw_seq (fun FK37 K37 => ?_)
      refine cw_region ?_
      refine wl_val (v := .pointer (some ⟨b, o + i, none⟩)) (fun ρ e => ex_idx (q := o + i) (i := i) el36 (e _ _ rfl) (e _ _ rfl) (by omega) (by omega)) rfl rfl ?_
      refine wl_val (v := .int .i64 v) (fun ρ e => ex_load1 ty3 (e _ _ rfl) (IntsD.cellq ((O33.ro 1 rfl) : IntsD _ _ (.slice (some ⟨b, o, none⟩) l.length c) l) hv)) rfl rfl ?_
      refine wl_val (v := .int .i64 v) (fun ρ e => ex_assign (e _ _ rfl)) rfl rfl ?_
      refine wl_nil ?_
      refine xw_next K37 ?_
      refine cw_seq (fun FK38 K38 => ?_)
      refine cw_seq (fun FK39 K39 => ?_)
      refine cw_region ?_
      refine wl_val (v := .int .i64 v) (fun ρ e => ex_move (e _ _ rfl)) rfl rfl ?_
      by_cases c40 : v < 1
      · skip
        refine wl_val (v := .bool true) (fun ρ e => ex_cmp (u := v) (v := 1) (e _ _ rfl) (e _ _ rfl) (lss1 (by omega))) rfl rfl ?_
        refine wl_val (v := .bool true) (fun ρ e => ex_move (e _ _ rfl)) rfl rfl ?_
        refine wl_skip rfl rfl ?_
        refine wl_skip rfl rfl ?_
        refine wl_val (v := .bool true) (fun ρ e => ex_pick1 (e _ _ rfl) (e _ _ rfl)) rfl rfl ?_
        refine wl_val (v := .bool true) (fun ρ e => ex_move (e _ _ rfl)) rfl rfl ?_
        refine wl_skip rfl rfl ?_
        refine wl_skip rfl rfl ?_
        refine wl_skip rfl rfl ?_
        refine wl_val (v := .bool true) (fun ρ e => ex_pick1 (e _ _ rfl) (e _ _ rfl)) rfl rfl ?_
        refine wl_nil ?_
        refine xw_next K39 ?_
        refine cw_true rfl ?_
        refine cw_seq (fun FK41 K41 => ?_)
        refine cw_region ?_
        refine wl_val (v := .bool false) (fun ρ e => ex_assign (e _ _ rfl)) rfl rfl ?_
        refine wl_nil ?_
        refine xw_next K41 ?_
        refine cw_ret ?_
        refine xw_past (by intro h; cases h) ?_
        refine xw_blockret ?_
        refine xw_past (by intro h; cases h) ?_
        refine xw_past (by intro h; cases h) ?_
        refine xw_blockret ?_
        refine xw_past (by intro h; cases h) ?_
        refine xw_ret (v := .bool false) (fun T hT => res1 rfl T _ (hT 2 _ rfl)) ?_
        have hno : ordB l = false := Bool.eq_false_iff.2 fun q => by have q2 := opre_take (ordB_iff.1 q).2 (i + 1); rw [htk, opre_snoc hp] at q2; first | omega | (have := q2.2.2; simp_all)
        rw [hno]
        exact ⟨rfl, O33.old⟩
      · skip
        refine wl_val (v := .bool false) (fun ρ e => ex_cmp (u := v) (v := 1) (e _ _ rfl) (e _ _ rfl) (lss0 (by omega))) rfl rfl ?_
        refine wl_val (v := .bool false) (fun ρ e => ex_move (e _ _ rfl)) rfl rfl ?_
        refine wl_val (v := .int .i64 v) (fun ρ e => ex_move (e _ _ rfl)) rfl rfl ?_
        by_cases c42 : v > 128
        · skip
          refine wl_val (v := .bool true) (fun ρ e => ex_cmp (u := v) (v := 128) (e _ _ rfl) (e _ _ rfl) (gtr1 (by omega))) rfl rfl ?_
          refine wl_val (v := .bool true) (fun ρ e => ex_pick0 (e _ _ rfl) (e _ _ rfl)) rfl rfl ?_
          refine wl_val (v := .bool true) (fun ρ e => ex_move (e _ _ rfl)) rfl rfl ?_
          refine wl_skip rfl rfl ?_
          refine wl_skip rfl rfl ?_
          refine wl_skip rfl rfl ?_
          refine wl_val (v := .bool true) (fun ρ e => ex_pick1 (e _ _ rfl) (e _ _ rfl)) rfl rfl ?_
          refine wl_nil ?_
          refine xw_next K39 ?_
          refine cw_true rfl ?_
          refine cw_seq (fun FK43 K43 => ?_)
          refine cw_region ?_
          refine wl_val (v := .bool false) (fun ρ e => ex_assign (e _ _ rfl)) rfl rfl ?_
          refine wl_nil ?_
          refine xw_next K43 ?_
          refine cw_ret ?_
          refine xw_past (by intro h; cases h) ?_
          refine xw_blockret ?_
          refine xw_past (by intro h; cases h) ?_
          refine xw_past (by intro h; cases h) ?_
          refine xw_blockret ?_
          refine xw_past (by intro h; cases h) ?_
          refine xw_ret (v := .bool false) (fun T hT => res1 rfl T _ (hT 2 _ rfl)) ?_
          have hno : ordB l = false := Bool.eq_false_iff.2 fun q => by have q2 := opre_take (ordB_iff.1 q).2 (i + 1); rw [htk, opre_snoc hp] at q2; first | omega | (have := q2.2.2; simp_all)
          rw [hno]
          exact ⟨rfl, O33.old⟩
        · skip
          obtain ⟨vn, rfl⟩ : ∃ n : Nat, v = n := ⟨v.toNat, by omega⟩
          refine wl_val (v := .bool false) (fun ρ e => ex_cmp (u := (vn : Int)) (v := 128) (e _ _ rfl) (e _ _ rfl) (gtr0 (by omega))) rfl rfl ?_
          refine wl_val (v := .bool false) (fun ρ e => ex_pick0 (e _ _ rfl) (e _ _ rfl)) rfl rfl ?_
          refine wl_val (v := .bool false) (fun ρ e => ex_move (e _ _ rfl)) rfl rfl ?_
          refine wl_val (v := .int .i64 (vn : Int)) (fun ρ e => ex_move (e _ _ rfl)) rfl rfl ?_
          refine wl_val (v := .pointer (some ⟨g21, vn, none⟩)) (fun ρ e => ex_idxA (q := vn) (i := vn) an70 (e _ _ rfl) (e _ _ rfl) (by omega) (by omega)) rfl rfl ?_
          refine wl_val (v := .bool (decide ((vn : Int) ∈ (l.take i)))) (fun ρ e => ex_load1 ty4 (e _ _ rfl) (O33.cell 0 vn rfl (getBo (flagL_get (l.take i) (by omega))))) rfl rfl ?_
          refine wl_val (v := .bool (decide ((vn : Int) ∈ (l.take i)))) (fun ρ e => ex_pick0 (e _ _ rfl) (e _ _ rfl)) rfl rfl ?_
          refine wl_nil ?_
          refine xw_next K39 ?_
          refine cw_cond (b := (decide ((vn : Int) ∈ (l.take i)))) rfl (fun c44 => ?_) (fun c44 => ?_)
          · skip
            refine cw_seq (fun FK45 K45 => ?_)
            refine cw_region ?_
            refine wl_val (v := .bool false) (fun ρ e => ex_assign (e _ _ rfl)) rfl rfl ?_
            refine wl_nil ?_
            refine xw_next K45 ?_
            refine cw_ret ?_
            refine xw_past (by intro h; cases h) ?_
            refine xw_blockret ?_
            refine xw_past (by intro h; cases h) ?_
            refine xw_past (by intro h; cases h) ?_
            refine xw_blockret ?_
            refine xw_past (by intro h; cases h) ?_
            refine xw_ret (v := .bool false) (fun T hT => res1 rfl T _ (hT 2 _ rfl)) ?_
            have hno : ordB l = false := Bool.eq_false_iff.2 fun q => by have q2 := opre_take (ordB_iff.1 q).2 (i + 1); rw [htk, opre_snoc hp] at q2; first | omega | (have := q2.2.2; simp_all)
            rw [hno]
            exact ⟨rfl, O33.old⟩
          · skip
            refine cw_skip ?_
            refine xw_next K38 ?_
            refine cw_region ?_
            refine wl_val (v := .int .i64 (vn : Int)) (fun ρ e => ex_move (e _ _ rfl)) rfl rfl ?_
            refine wl_val (v := .pointer (some ⟨g21, vn, none⟩)) (fun ρ e => ex_idxA (q := vn) (i := vn) an70 (e _ _ rfl) (e _ _ rfl) (by omega) (by omega)) rfl rfl ?_
            obtain ⟨w46, r47, O48, hs49⟩ := own_put (o := vn) (n := 1) O33 ty4 (.bool true) [.bool true] (cs' := (boolCs (flagL 129 ((l.take i) ++ [(vn : Int)]))).toArray) rfl rfl rfl (by simp [boolCs, flagL_len] <;> omega) ((setBo _ vn true).trans (congrArg (fun z => (boolCs z).toArray) (flagL_set 129 vn (l.take i))))
            refine wl_none (fun ρ e => r47 ρ _ _ _ _ _ _ (e _ _ rfl) (e _ _ rfl)) rfl ?_
            refine wl_nil ?_
            refine xw_block ?_
            refine xw_next K36 ?_
            refine cw_region ?_
            refine wl_val (v := .int .i64 ((i + 1 : Nat) : Int)) (fun ρ e => ex_arith (k := .i64) (u := (i : Int)) (v := 1) (e _ _ rfl) (e _ _ rfl) (congrArg some ((congrArg _ (by omega)).trans (wrap_in (u := ((i + 1 : Nat) : Int)) (by omega) (by omega))))) rfl rfl ?_
            refine wl_val (v := .int .i64 ((i + 1 : Nat) : Int)) (fun ρ e => ex_move (e _ _ rfl)) rfl rfl ?_
            refine wl_nil ?_
            have O50 : Own Z0 W w46 [.blk g21 70 ((boolCs (flagL 129 (l.take (i + 1)))).toArray), .ro D (fun w => IntsD D w (.slice (some ⟨b, o, none⟩) l.length c) l)] := by rw [htk]; exact O48
            refine xw_round K32 (i + 1) (by show l.length - (i + 1) < l.length - i; omega) ⟨(by show i + 1 ≤ l.length; omega), (by show opreB (l.take (i + 1)) = true; rw [htk]; exact (opre_snoc hp).2 ⟨by omega, by omega, by simpa using c44⟩), O50⟩ ⟨rfl, rfl, rfl, rfl, rfl, trivial⟩
    · have hie : i = l.length := by omega
      refine cw_seq (fun FK51 K51 => ?_)
      refine cw_region ?_
      refine wl_val (v := .bool false) (fun ρ e => ex_cmp (u := (i : Int)) (v := ((l.length : Nat) : Int)) (e _ _ rfl) (e _ _ rfl) (lss0 (by omega))) rfl rfl ?_
      refine wl_nil ?_
      refine xw_next K51 ?_
      refine cw_seq (fun FK52 K52 => ?_)
      refine cw_false rfl ?_
      refine cw_exit ?_
      refine xw_past (by intro h; cases h) ?_
      refine xw_past (by intro h; cases h) ?_
      refine xw_here ?_
      refine xw_next K27 ?_
      refine cw_seq (fun FK53 K53 => ?_)
      refine cw_region ?_
      refine wl_val (v := .slice (some ⟨b, o, none⟩) l.length c) (fun ρ e => ex_move (e _ _ rfl)) rfl rfl ?_
      refine wl_val (v := .int .i64 ((l.length : Nat) : Int)) (fun ρ e => ex_len el36 (e _ _ rfl)) rfl rfl ?_
      refine wl_val (v := .bool true) (fun ρ e => ex_cmp (u := ((l.length : Nat) : Int)) (v := 0) (e _ _ rfl) (e _ _ rfl) (gtr1 (by omega))) rfl rfl ?_
      refine wl_val (v := .bool true) (fun ρ e => ex_assign (e _ _ rfl)) rfl rfl ?_
      refine wl_nil ?_
      refine xw_next K53 ?_
      refine cw_ret ?_
      refine xw_ret (v := .bool true) (fun T hT => res1 rfl T _ (hT 2 _ rfl)) ?_
      rw [hie, List.take_length] at hp
      have hr : ordB l = true := ordB_iff.2 ⟨by omega, hp⟩
      rw [hr]
      exact ⟨rfl, O33.old⟩
theorem ex_quo2 {ρ : Operand → Value} {d : Option Tmp} {x y : Operand} {t : TypeId} {pos : String} {aft : Array Edge} {gd : Option (Nat × Bool)} {w : World} {a : Nat} {T1 : TypeId} (hx : ρ x = .int .i64 ((a : Nat) : Int)) (hy : ρ y = .int .i64 2) (ha : a ≤ 1000000000) : (execOp ρ ⟨d, .binOp .quo 3 x y T1, t, pos, aft, gd⟩).run Tryd.prog w = .ok (.value (.int .i64 ((a / 2 : Nat) : Int))) w := by
  have h : IntKind.i64.wrap ((a : Int) / 2) = (a : Int) / 2 := by
    rw [IntKind.wrap_i64]
    omega
  simp [go_sem, hx, hy, h]
theorem part55 {W : World} {m : Nat} (h : 2 ≤ m) (h2 : m ≤ 1000000) : Calls Tryd.prog 55 #[.int .i64 (m : Int)] W fun e w' => e = .returned (.int .i64 ((gOf 1 m : Nat) : Int)) ∧ Below W.heap.size W w' := by
  have O0 : Own Z0 W W [] := Own.start W
  refine sx_enter (args := [.int .i64 (m : Int)]) Tryd.func55 rfl rfl (by simp) ?_
  refine cw_seq (fun FK1 K1 => ?_)
  refine cw_region ?_
  refine wl_val (v := .int .i64 0) (fun ρ e => ex_assign (e _ _ rfl)) rfl rfl ?_
  refine wl_nil ?_
  refine xw_next K1 ?_
  refine cw_seq (fun FK2 K2 => ?_)
  refine cw_region ?_
  refine wl_val (v := .int .i64 1) (fun ρ e => ex_assign (e _ _ rfl)) rfl rfl ?_
  refine wl_nil ?_
  refine xw_next K2 ?_
  refine cw_ret ?_
  refine xw_ret (v := .int .i64 1) (fun T hT => res1 rfl T _ (hT 2 _ rfl)) ?_
  exact ⟨rfl, O0.old⟩
theorem part56 {W : World} {m : Nat} (h : 2 ≤ m) (h2 : m ≤ 1000000) : Calls Tryd.prog 56 #[.int .i64 (m : Int)] W fun e w' => e = .returned (.int .i64 ((gOf 2 m : Nat) : Int)) ∧ Below W.heap.size W w' := by
  have O0 : Own Z0 W W [] := Own.start W
  refine sx_enter (args := [.int .i64 (m : Int)]) Tryd.func56 rfl rfl (by simp) ?_
  refine cw_seq (fun FK1 K1 => ?_)
  refine cw_region ?_
  refine wl_val (v := .int .i64 0) (fun ρ e => ex_assign (e _ _ rfl)) rfl rfl ?_
  refine wl_nil ?_
  refine xw_next K1 ?_
  refine cw_seq (fun FK2 K2 => ?_)
  refine cw_region ?_
  refine wl_val (v := .int .i64 (m : Int)) (fun ρ e => ex_move (e _ _ rfl)) rfl rfl ?_
  refine wl_val (v := .int .i64 ((m - 1 : Nat) : Int)) (fun ρ e => ex_arith (k := .i64) (u := (m : Int)) (v := 1) (e _ _ rfl) (e _ _ rfl) (congrArg some ((congrArg _ (show _ = ((m - 1 : Nat) : Int) by omega)).trans (wrap_in (by omega) (by omega))))) rfl rfl ?_
  refine wl_val (v := .int .i64 ((m - 1 : Nat) : Int)) (fun ρ e => ex_assign (e _ _ rfl)) rfl rfl ?_
  refine wl_nil ?_
  refine xw_next K2 ?_
  refine cw_ret ?_
  refine xw_ret (v := .int .i64 ((m - 1 : Nat) : Int)) (fun T hT => res1 rfl T _ (hT 2 _ rfl)) ?_
  exact ⟨rfl, O0.old⟩
theorem part57 {W : World} {m : Nat} (h : 2 ≤ m) (h2 : m ≤ 1000000) : Calls Tryd.prog 57 #[.int .i64 (m : Int)] W fun e w' => e = .returned (.int .i64 ((gOf 3 m : Nat) : Int)) ∧ Below W.heap.size W w' := by
  have O0 : Own Z0 W W [] := Own.start W
  refine sx_enter (args := [.int .i64 (m : Int)]) Tryd.func57 rfl rfl (by simp) ?_
  refine cw_seq (fun FK1 K1 => ?_)
  refine cw_region ?_
  refine wl_val (v := .int .i64 0) (fun ρ e => ex_assign (e _ _ rfl)) rfl rfl ?_
  refine wl_nil ?_
  refine xw_next K1 ?_
  refine cw_seq (fun FK2 K2 => ?_)
  refine cw_region ?_
  refine wl_val (v := .int .i64 (m : Int)) (fun ρ e => ex_move (e _ _ rfl)) rfl rfl ?_
  refine wl_val (v := .int .i64 ((m + 1 : Nat) : Int)) (fun ρ e => ex_arith (k := .i64) (u := (m : Int)) (v := 1) (e _ _ rfl) (e _ _ rfl) (congrArg some ((congrArg _ (by omega)).trans (wrap_in (u := ((m + 1 : Nat) : Int)) (by omega) (by omega))))) rfl rfl ?_
  refine wl_val (v := .int .i64 (((m + 1) / 2 : Nat) : Int)) (fun ρ e => ex_quo2 (e _ _ rfl) (e _ _ rfl) (by omega)) rfl rfl ?_
  refine wl_val (v := .int .i64 (((m + 1) / 2 : Nat) : Int)) (fun ρ e => ex_assign (e _ _ rfl)) rfl rfl ?_
  refine wl_nil ?_
  refine xw_next K2 ?_
  refine cw_ret ?_
  refine xw_ret (v := .int .i64 (((m + 1) / 2 : Nat) : Int)) (fun T hT => res1 rfl T _ (hT 2 _ rfl)) ?_
  exact ⟨rfl, O0.old⟩
theorem ex_sliceLo {ρ : Operand → Value} {d : Option Tmp} {x y : Operand} {t T : TypeId} {pos : String} {aft : Array Edge} {gd : Option (Nat × Bool)} {w : World} {e b o n c k q : Nat} (hT : ElB T e 1) (hx : ρ x = .slice (some ⟨b, o, none⟩) n c) (hy : ρ y = .int .i64 (k : Int)) (h1 : k < c) (h2 : k ≤ n) (hq : o + k = q) : (execOp ρ ⟨d, .slice T x (some y) none none, t, pos, aft, gd⟩).run Tryd.prog w = .ok (.value (.slice (some ⟨b, q, none⟩) (n - k) (c - k))) w := by
  subst hq
  have h3 : ¬ c = k := by omega
  simp [execOp, Instr.sliceAt, Instr.slice, run_underlying hT.elem, hx, hy, Instr.sliceBounds, Instr.sliceBound, asIntOf, h2, run_size hT.size, addr_plus, h3]
theorem part_ {L0 : List Int} {g : Nat → Nat} {D : Nat → Prop} {lc pc oc bl ol cl : Nat} {fl : FuncId} (hin : Enters Tryd.prog fl) (HL : ∀ (m : Nat) (W : World), 2 ≤ m → m ≤ 1000000 → Calls Tryd.prog fl #[.int .i64 (m : Int)] W fun e w' => e = .returned (.int .i64 ((g m : Nat) : Int)) ∧ Below W.heap.size W w') (hg : ∀ m, 2 ≤ m → 1 ≤ g m ∧ g m < m) :
    ∀ (k s m cc : Nat), s + m ≤ L0.length → 1 ≤ m → m ≤ k → m ≤ cc → ∀ (Z : Bool → Nat → Prop) (w0 W : World) (A : Option Addr) (n c : Nat) (l : List VN), Own Z w0 W [.blk lc 75 #[.func (.func fl) #[] #[]], .blk pc 69 #[.func (.func 76) #[] #[.pointer (some ⟨lc, 0, none⟩), .pointer (some ⟨pc, 0, none⟩), .pointer (some ⟨oc, 0, none⟩)]], .blk oc 23 #[.slice A n c], .row (.slice A n c) 38 3 n (ncells l), .ro D (fun w => IntsD D w (.slice (some ⟨bl, ol, none⟩) L0.length cl) L0)] → n + 2 * m ≤ 1000000 →
    Calls Tryd.prog 76 #[.slice (some ⟨bl, ol + s, none⟩) m cc, .pointer (some ⟨lc, 0, none⟩), .pointer (some ⟨pc, 0, none⟩), .pointer (some ⟨oc, 0, none⟩)] W fun e w' => ∃ A' c', e = .returned (.int .i64 ((n + Tr.size (mkT g k ((L0.drop s).take m)) - 1 : Nat) : Int)) ∧ Own Z w0 w' [.blk lc 75 #[.func (.func fl) #[] #[]], .blk pc 69 #[.func (.func 76) #[] #[.pointer (some ⟨lc, 0, none⟩), .pointer (some ⟨pc, 0, none⟩), .pointer (some ⟨oc, 0, none⟩)]], .blk oc 23 #[.slice A' (n + Tr.size (mkT g k ((L0.drop s).take m))) c'], .row (.slice A' (n + Tr.size (mkT g k ((L0.drop s).take m))) c') 38 3 (n + Tr.size (mkT g k ((L0.drop s).take m))) (ncells (l ++ post (mkT g k ((L0.drop s).take m)) n)), .ro D (fun w => IntsD D w (.slice (some ⟨bl, ol, none⟩) L0.length cl) L0)]
  | 0, s, m, cc, _, h1, h2, _ => absurd h1 (by omega)
  | k + 1, s, m, cc, hsm, hm1, hmk, hmc => fun Z w0 W A n c l O0 hlim => by
    have IH := part_ (L0 := L0) (lc := lc) (pc := pc) (oc := oc) (bl := bl) (ol := ol) (cl := cl) (D := D) hin HL hg k
    obtain ⟨v0, hv0⟩ : ∃ v, L0[s]? = some v := ⟨L0[s], List.getElem?_eq_getElem (by omega)⟩
    have hlen : ((L0.drop s).take m).length = m := by rw [List.length_take, List.length_drop]; omega
    by_cases h1 : m = 1
    · skip
      have hT : mkT g (k + 1) ((L0.drop s).take m) = .leaf v0 := mkT_one (by rw [hlen]; omega) (by rw [List.getElem?_take_of_lt (by omega), List.getElem?_drop, Nat.add_zero]; exact hv0)
      refine sx_enter (args := [.slice (some ⟨bl, ol + s, none⟩) m cc, .pointer (some ⟨lc, 0, none⟩), .pointer (some ⟨pc, 0, none⟩), .pointer (some ⟨oc, 0, none⟩)]) Tryd.func76 rfl rfl (by simp) ?_
      refine cw_seq (fun FK1 K1 => ?_)
      refine cw_region ?_
      refine wl_val (v := .int .i64 0) (fun ρ e => ex_assign (e _ _ rfl)) rfl rfl ?_
      refine wl_nil ?_
      refine xw_next K1 ?_
      refine cw_seq (fun FK2 K2 => ?_)
      refine cw_region ?_
      refine wl_val (v := .slice (some ⟨bl, ol + s, none⟩) m cc) (fun ρ e => ex_move (e _ _ rfl)) rfl rfl ?_
      refine wl_val (v := .pointer (some ⟨bl, ol + s, none⟩)) (fun ρ e => ex_idx (q := ol + s) (i := 0) el36 (e _ _ rfl) (e _ _ rfl) (by omega) (by omega)) rfl rfl ?_
      refine wl_val (v := .int .i64 v0) (fun ρ e => ex_load1 ty3 (e _ _ rfl) (IntsD.cellq ((O0.ro 4 rfl) : IntsD _ _ (.slice (some ⟨bl, ol, none⟩) L0.length cl) L0) hv0)) rfl rfl ?_
      refine wl_call (args := [.int .i64 v0]) in_50 rfl rfl rfl ?_
      refine (leafof_ v0 (W := W)).mono ?_
      rintro _ w3 ⟨rfl, hb4⟩
      have O5 : Own Z w0 w3 [.blk lc 75 #[.func (.func fl) #[] #[]], .blk pc 69 #[.func (.func 76) #[] #[.pointer (some ⟨lc, 0, none⟩), .pointer (some ⟨pc, 0, none⟩), .pointer (some ⟨oc, 0, none⟩)]], .blk oc 23 #[.slice A n c], .row (.slice A n c) 38 3 n (ncells l), .ro D (fun w => IntsD D w (.slice (some ⟨bl, ol, none⟩) L0.length cl) L0)] := O0.below hb4
      refine ⟨_, rfl, ?_⟩
      obtain ⟨g6, w7, r8, O9, hg10, hs11⟩ := own_alloc O5 38 ze38 rfl
      refine wl_val (v := .pointer (some ⟨g6, 0, none⟩)) (fun ρ e => r8 ρ _ _ _ _ _) rfl rfl ?_
      obtain ⟨w12, r13, O14, hs15⟩ := own_put (o := 0) (n := 3) O9 ty38 (.agg #[.int .i64 (-1), .int .i64 (-1), .int .i64 v0]) [.int .i64 (-1), .int .i64 (-1), .int .i64 v0] (cs' := #[.int .i64 (-1), .int .i64 (-1), .int .i64 v0]) rfl rfl rfl (Nat.le_of_ble_eq_true rfl) rfl
      refine wl_none (fun ρ e => r13 ρ _ _ _ _ _ _ (e _ _ rfl) (e _ _ rfl)) rfl ?_
      refine wl_nil ?_
      refine xw_next K2 ?_
      refine cw_seq (fun FK16 K16 => ?_)
      refine cw_seq (fun FK17 K17 => ?_)
      refine cw_region ?_
      refine wl_val (v := .slice (some ⟨bl, ol + s, none⟩) m cc) (fun ρ e => ex_move (e _ _ rfl)) rfl rfl ?_
      refine wl_val (v := .int .i64 (m : Int)) (fun ρ e => ex_len el36 (e _ _ rfl)) rfl rfl ?_
      refine wl_val (v := .bool false) (fun ρ e => ex_cmp (u := (m : Int)) (v := 1) (e _ _ rfl) (e _ _ rfl) (gtr0 (by omega))) rfl rfl ?_
      refine wl_nil ?_
      refine xw_next K17 ?_
      refine cw_false rfl ?_
      refine cw_skip ?_
      refine xw_next K16 ?_
      refine cw_seq (fun FK18 K18 => ?_)
      refine cw_region ?_
      refine wl_val (v := .slice A n c) (fun ρ e => ex_load1 ty23 (e _ _ rfl) (O14.cell 3 0 rfl rfl)) rfl rfl ?_
      refine wl_val (v := .agg #[.int .i64 (-1), .int .i64 (-1), .int .i64 v0]) (fun ρ e => ex_loadN (vs := [.int .i64 (-1), .int .i64 (-1), .int .i64 v0]) ty38 (e _ _ rfl) rfl (O14.cells 0 0 rfl rfl)) rfl rfl ?_
      obtain ⟨g19, w20, r21, O22, hg23, hs24⟩ := own_slice O14 el23 ze38 1 [(0, .agg #[.int .i64 (-1), .int .i64 (-1), .int .i64 v0])] (cs := #[.int .i64 (-1), .int .i64 (-1), .int .i64 v0]) (by decide) (by kernel_rfl)
      refine wl_val (v := .slice (some ⟨g19, 0, none⟩) 1 1) (fun ρ e => r21 ρ _ _ _ _ _ _ (e.parts rfl)) rfl rfl ?_
      obtain ⟨A25, c26, w27, r28, O29, hz30, hc31⟩ := own_app1 (O22.re [5, 0, 1, 2, 3, 4, 6] rfl : Own Z w0 w20 [.row (.slice A n c) 38 3 n (ncells l), .blk g19 38 #[.int .i64 (-1), .int .i64 (-1), .int .i64 v0], .blk g6 38 #[.int .i64 (-1), .int .i64 (-1), .int .i64 v0], .blk lc 75 #[.func (.func fl) #[] #[]], .blk pc 69 #[.func (.func 76) #[] #[.pointer (some ⟨lc, 0, none⟩), .pointer (some ⟨pc, 0, none⟩), .pointer (some ⟨oc, 0, none⟩)]], .blk oc 23 #[.slice A n c], .ro D (fun w => IntsD D w (.slice (some ⟨bl, ol, none⟩) L0.length cl) L0)]) ap23 ((O22.re [5, 0, 1, 2, 3, 4, 6] rfl : Own Z w0 w20 [.row (.slice A n c) 38 3 n (ncells l), .blk g19 38 #[.int .i64 (-1), .int .i64 (-1), .int .i64 v0], .blk g6 38 #[.int .i64 (-1), .int .i64 (-1), .int .i64 v0], .blk lc 75 #[.func (.func fl) #[] #[]], .blk pc 69 #[.func (.func 76) #[] #[.pointer (some ⟨lc, 0, none⟩), .pointer (some ⟨pc, 0, none⟩), .pointer (some ⟨oc, 0, none⟩)]], .blk oc 23 #[.slice A n c], .ro D (fun w => IntsD D w (.slice (some ⟨bl, ol, none⟩) L0.length cl) L0)]).blk 1 rfl) (cells := [.int .i64 (-1), .int .i64 (-1), .int .i64 v0]) rfl rfl (by omega) (by omega) (ys := (ncells (l ++ [(VN.mk (-1) (-1) v0)]))) (ncells_snoc l (VN.mk (-1) (-1) v0))
      refine wl_val (v := .slice A25 (n + 1) c26) (fun ρ e => r28 ρ _ _ _ _ _ _ _ (e _ _ rfl) (e _ _ rfl)) rfl rfl ?_
      obtain ⟨w32, r33, O34, hs35⟩ := own_put (o := 0) (n := 1) (O29.re [5, 0, 1, 2, 3, 4, 6] rfl : Own Z w0 w27 [.blk oc 23 #[.slice A n c], .row (.slice A25 (n + 1) c26) 38 3 (n + 1) (ncells (l ++ [(VN.mk (-1) (-1) v0)])), .blk g19 38 #[.int .i64 (-1), .int .i64 (-1), .int .i64 v0], .blk g6 38 #[.int .i64 (-1), .int .i64 (-1), .int .i64 v0], .blk lc 75 #[.func (.func fl) #[] #[]], .blk pc 69 #[.func (.func 76) #[] #[.pointer (some ⟨lc, 0, none⟩), .pointer (some ⟨pc, 0, none⟩), .pointer (some ⟨oc, 0, none⟩)]], .ro D (fun w => IntsD D w (.slice (some ⟨bl, ol, none⟩) L0.length cl) L0)]) ty23 (.slice A25 (n + 1) c26) [.slice A25 (n + 1) c26] (cs' := #[.slice A25 (n + 1) c26]) rfl rfl rfl (Nat.le_of_ble_eq_true rfl) rfl
      refine wl_none (fun ρ e => r33 ρ _ _ _ _ _ _ (e _ _ rfl) (e _ _ rfl)) rfl ?_
      refine wl_nil ?_
      refine xw_next K18 ?_
      refine cw_seq (fun FK36 K36 => ?_)
      refine cw_region ?_
      refine wl_val (v := .slice A25 (n + 1) c26) (fun ρ e => ex_load1 ty23 (e _ _ rfl) (O34.cell 0 0 rfl rfl)) rfl rfl ?_
      refine wl_val (v := .int .i64 ((n + 1 : Nat) : Int)) (fun ρ e => ex_len el23 (e _ _ rfl)) rfl rfl ?_
      refine wl_val (v := .int .i64 ((n + 1 - 1 : Nat) : Int)) (fun ρ e => ex_arith (k := .i64) (u := ((n + 1 : Nat) : Int)) (v := 1) (e _ _ rfl) (e _ _ rfl) (congrArg some ((congrArg _ (show _ = ((n + 1 - 1 : Nat) : Int) by omega)).trans (wrap_in (by omega) (by omega))))) rfl rfl ?_
      refine wl_val (v := .int .i64 ((n + 1 - 1 : Nat) : Int)) (fun ρ e => ex_assign (e _ _ rfl)) rfl rfl ?_
      refine wl_nil ?_
      refine xw_next K36 ?_
      refine cw_ret ?_
      refine xw_ret (v := .int .i64 ((n + 1 - 1 : Nat) : Int)) (fun T hT => res1 rfl T _ (hT 5 _ rfl)) ?_
      have hn : n + 1 = n + Tr.size (mkT g (k + 1) ((L0.drop s).take m)) := by rw [hT]; simp only [Tr.size] <;> omega
      have hl : (l ++ [(VN.mk (-1) (-1) v0)]) = l ++ post (mkT g (k + 1) ((L0.drop s).take m)) n := by rw [hT]; simp [post]
      have hO := (O34.re [4, 5, 0, 1, 6] rfl : Own Z w0 w32 [.blk lc 75 #[.func (.func fl) #[] #[]], .blk pc 69 #[.func (.func 76) #[] #[.pointer (some ⟨lc, 0, none⟩), .pointer (some ⟨pc, 0, none⟩), .pointer (some ⟨oc, 0, none⟩)]], .blk oc 23 #[.slice A25 (n + 1) c26], .row (.slice A25 (n + 1) c26) 38 3 (n + 1) (ncells (l ++ [(VN.mk (-1) (-1) v0)])), .ro D (fun w => IntsD D w (.slice (some ⟨bl, ol, none⟩) L0.length cl) L0)])
      rw [hn, hl] at hO
      exact ⟨A25, c26, congrArg (fun z : Nat => Ending.returned (.int .i64 (z : Int))) (show n + 1 - 1 = n + Tr.size (mkT g (k + 1) ((L0.drop s).take m)) - 1 by rw [hT]; simp only [Tr.size] <;> omega), hO⟩
    · skip
      have hm2 : 2 ≤ m := by omega
      have hgm := hg m hm2
      have hT : mkT g (k + 1) ((L0.drop s).take m) = .node (mkT g k ((L0.drop s).take (g m))) (mkT g k ((L0.drop (s + g m)).take (m - g m))) := by rw [mkT_more (by rw [hlen]; exact hm2), hlen, List.take_take, Nat.min_eq_left (by omega), List.drop_take, List.drop_drop]
      have hsz1 : Tr.size (mkT g k ((L0.drop s).take (g m))) = 2 * g m - 1 := by rw [(mkT_leaves hg k _ (by rw [List.length_take, List.length_drop]; omega) (by rw [List.length_take, List.length_drop]; omega)).2, List.length_take, List.length_drop, Nat.min_eq_left (by omega)]
      have hsz2 : Tr.size (mkT g k ((L0.drop (s + g m)).take (m - g m))) = 2 * (m - g m) - 1 := by rw [(mkT_leaves hg k _ (by rw [List.length_take, List.length_drop]; omega) (by rw [List.length_take, List.length_drop]; omega)).2, List.length_take, List.length_drop, Nat.min_eq_left (by omega)]
      refine sx_enter (args := [.slice (some ⟨bl, ol + s, none⟩) m cc, .pointer (some ⟨lc, 0, none⟩), .pointer (some ⟨pc, 0, none⟩), .pointer (some ⟨oc, 0, none⟩)]) Tryd.func76 rfl rfl (by simp) ?_
      refine cw_seq (fun FK1 K1 => ?_)
      refine cw_region ?_
      refine wl_val (v := .int .i64 0) (fun ρ e => ex_assign (e _ _ rfl)) rfl rfl ?_
      refine wl_nil ?_
      refine xw_next K1 ?_
      refine cw_seq (fun FK2 K2 => ?_)
      refine cw_region ?_
      refine wl_val (v := .slice (some ⟨bl, ol + s, none⟩) m cc) (fun ρ e => ex_move (e _ _ rfl)) rfl rfl ?_
      refine wl_val (v := .pointer (some ⟨bl, ol + s, none⟩)) (fun ρ e => ex_idx (q := ol + s) (i := 0) el36 (e _ _ rfl) (e _ _ rfl) (by omega) (by omega)) rfl rfl ?_
      refine wl_val (v := .int .i64 v0) (fun ρ e => ex_load1 ty3 (e _ _ rfl) (IntsD.cellq ((O0.ro 4 rfl) : IntsD _ _ (.slice (some ⟨bl, ol, none⟩) L0.length cl) L0) hv0)) rfl rfl ?_
      refine wl_call (args := [.int .i64 v0]) in_50 rfl rfl rfl ?_
      refine (leafof_ v0 (W := W)).mono ?_
      rintro _ w3 ⟨rfl, hb4⟩
      have O5 : Own Z w0 w3 [.blk lc 75 #[.func (.func fl) #[] #[]], .blk pc 69 #[.func (.func 76) #[] #[.pointer (some ⟨lc, 0, none⟩), .pointer (some ⟨pc, 0, none⟩), .pointer (some ⟨oc, 0, none⟩)]], .blk oc 23 #[.slice A n c], .row (.slice A n c) 38 3 n (ncells l), .ro D (fun w => IntsD D w (.slice (some ⟨bl, ol, none⟩) L0.length cl) L0)] := O0.below hb4
      refine ⟨_, rfl, ?_⟩
      obtain ⟨g6, w7, r8, O9, hg10, hs11⟩ := own_alloc O5 38 ze38 rfl
      refine wl_val (v := .pointer (some ⟨g6, 0, none⟩)) (fun ρ e => r8 ρ _ _ _ _ _) rfl rfl ?_
      obtain ⟨w12, r13, O14, hs15⟩ := own_put (o := 0) (n := 3) O9 ty38 (.agg #[.int .i64 (-1), .int .i64 (-1), .int .i64 v0]) [.int .i64 (-1), .int .i64 (-1), .int .i64 v0] (cs' := #[.int .i64 (-1), .int .i64 (-1), .int .i64 v0]) rfl rfl rfl (Nat.le_of_ble_eq_true rfl) rfl
      refine wl_none (fun ρ e => r13 ρ _ _ _ _ _ _ (e _ _ rfl) (e _ _ rfl)) rfl ?_
      refine wl_nil ?_
      refine xw_next K2 ?_
      refine cw_seq (fun FK16 K16 => ?_)
      refine cw_seq (fun FK17 K17 => ?_)
      refine cw_region ?_
      refine wl_val (v := .slice (some ⟨bl, ol + s, none⟩) m cc) (fun ρ e => ex_move (e _ _ rfl)) rfl rfl ?_
      refine wl_val (v := .int .i64 (m : Int)) (fun ρ e => ex_len el36 (e _ _ rfl)) rfl rfl ?_
      refine wl_val (v := .bool true) (fun ρ e => ex_cmp (u := (m : Int)) (v := 1) (e _ _ rfl) (e _ _ rfl) (gtr1 (by omega))) rfl rfl ?_
      refine wl_nil ?_
      refine xw_next K17 ?_
      refine cw_true rfl ?_
      refine cw_seq (fun FK18 K18 => ?_)
      refine cw_region ?_
      refine wl_val (v := .func (.func fl) #[] #[]) (fun ρ e => ex_load1 ty75 (e _ _ rfl) (O14.cell 1 0 rfl rfl)) rfl rfl ?_
      refine wl_val (v := .slice (some ⟨bl, ol + s, none⟩) m cc) (fun ρ e => ex_move (e _ _ rfl)) rfl rfl ?_
      refine wl_val (v := .int .i64 (m : Int)) (fun ρ e => ex_len el36 (e _ _ rfl)) rfl rfl ?_
      refine wl_callv (args := [.int .i64 (m : Int)]) (all := [.int .i64 (m : Int)]) hin rfl rfl rfl rfl rfl ?_
      refine (HL m _ hm2 (by omega)).mono ?_
      rintro _ w19 ⟨rfl, hb20⟩
      have O21 : Own Z w0 w19 [.blk g6 38 #[.int .i64 (-1), .int .i64 (-1), .int .i64 v0], .blk lc 75 #[.func (.func fl) #[] #[]], .blk pc 69 #[.func (.func 76) #[] #[.pointer (some ⟨lc, 0, none⟩), .pointer (some ⟨pc, 0, none⟩), .pointer (some ⟨oc, 0, none⟩)]], .blk oc 23 #[.slice A n c], .row (.slice A n c) 38 3 n (ncells l), .ro D (fun w => IntsD D w (.slice (some ⟨bl, ol, none⟩) L0.length cl) L0)] := O14.below hb20
      refine ⟨_, rfl, ?_⟩
      refine wl_val (v := .int .i64 ((g m : Nat) : Int)) (fun ρ e => ex_assign (e _ _ rfl)) rfl rfl ?_
      refine wl_nil ?_
      refine xw_next K18 ?_
      refine cw_drawn (fun X => Own Z w0 X [.blk g6 38 #[.int .i64 (-1), .int .i64 (-1), .int .i64 v0], .blk lc 75 #[.func (.func fl) #[] #[]], .blk pc 69 #[.func (.func 76) #[] #[.pointer (some ⟨lc, 0, none⟩), .pointer (some ⟨pc, 0, none⟩), .pointer (some ⟨oc, 0, none⟩)]], .ro D (fun w => IntsD D w (.slice (some ⟨bl, ol, none⟩) L0.length cl) L0)]) 11 [(0, 0), (1, 1), (2, 1), (3, 1), (5, 0), (6, 1), (7, 1), (8, 1), (4, 2), (9, 2), (10, 1), (11, 3)] (by kernel_rfl) (by kernel_rfl) (PQ.then_ PQ.body) ((O21.re [0, 1, 2, 5] rfl : Own Z w0 w19 [.blk g6 38 #[.int .i64 (-1), .int .i64 (-1), .int .i64 v0], .blk lc 75 #[.func (.func fl) #[] #[]], .blk pc 69 #[.func (.func 76) #[] #[.pointer (some ⟨lc, 0, none⟩), .pointer (some ⟨pc, 0, none⟩), .pointer (some ⟨oc, 0, none⟩)]], .ro D (fun w => IntsD D w (.slice (some ⟨bl, ol, none⟩) L0.length cl) L0)])).drew ?_
      have O22 : Own Z w0 w19.drew [.blk g6 38 #[.int .i64 (-1), .int .i64 (-1), .int .i64 v0], .blk lc 75 #[.func (.func fl) #[] #[]], .blk pc 69 #[.func (.func 76) #[] #[.pointer (some ⟨lc, 0, none⟩), .pointer (some ⟨pc, 0, none⟩), .pointer (some ⟨oc, 0, none⟩)]], .blk oc 23 #[.slice A n c], .row (.slice A n c) 38 3 n (ncells l), .ro D (fun w => IntsD D w (.slice (some ⟨bl, ol, none⟩) L0.length cl) L0)] := O21.drew
      refine wt0 (v := .func (.func 76) #[] #[.pointer (some ⟨lc, 0, none⟩), .pointer (some ⟨pc, 0, none⟩), .pointer (some ⟨oc, 0, none⟩)]) rfl (fun ρ e W hW => ex_load1 ty69 (e _ _ rfl) (hW.cell 2 0 rfl rfl)) rfl rfl ?_
      refine wt1 (v := .slice (some ⟨bl, ol + s, none⟩) m cc) rfl (fun ρ e W => ex_move (e _ _ rfl)) rfl rfl ?_
      refine wt1 (v := .int .i64 ((g m : Nat) : Int)) rfl (fun ρ e W => ex_move (e _ _ rfl)) rfl rfl ?_
      refine wt1 (v := .slice (some ⟨bl, ol + s, none⟩) (g m) cc) rfl (fun ρ e W => ex_sliceHi (h := g m) el36 (e _ _ rfl) (e _ _ rfl) (by omega)) rfl rfl ?_
      refine wt0 (v := .func (.func 76) #[] #[.pointer (some ⟨lc, 0, none⟩), .pointer (some ⟨pc, 0, none⟩), .pointer (some ⟨oc, 0, none⟩)]) rfl (fun ρ e W hW => ex_load1 ty69 (e _ _ rfl) (hW.cell 2 0 rfl rfl)) rfl rfl ?_
      refine wt1 (v := .slice (some ⟨bl, ol + s, none⟩) m cc) rfl (fun ρ e W => ex_move (e _ _ rfl)) rfl rfl ?_
      refine wt1 (v := .int .i64 ((g m : Nat) : Int)) rfl (fun ρ e W => ex_move (e _ _ rfl)) rfl rfl ?_
      refine wt1 (v := .slice (some ⟨bl, ol + (s + g m), none⟩) (m - g m) (cc - g m)) rfl (fun ρ e W => ex_sliceLo (k := g m) (q := ol + (s + g m)) el36 (e _ _ rfl) (e _ _ rfl) (by omega) (by omega) (by omega)) rfl rfl ?_
      refine wt2_callv (args := [.slice (some ⟨bl, ol + s, none⟩) (g m) cc]) (all := [.slice (some ⟨bl, ol + s, none⟩) (g m) cc, .pointer (some ⟨lc, 0, none⟩), .pointer (some ⟨pc, 0, none⟩), .pointer (some ⟨oc, 0, none⟩)]) rfl in_76 rfl rfl rfl rfl rfl ?_
      have O27h := Own.hand (A := [.blk lc 75 #[.func (.func fl) #[] #[]], .blk pc 69 #[.func (.func 76) #[] #[.pointer (some ⟨lc, 0, none⟩), .pointer (some ⟨pc, 0, none⟩), .pointer (some ⟨oc, 0, none⟩)]], .blk oc 23 #[.slice A n c], .row (.slice A n c) 38 3 n (ncells l), .ro D (fun w => IntsD D w (.slice (some ⟨bl, ol, none⟩) L0.length cl) L0)]) (R := [.blk g6 38 #[.int .i64 (-1), .int .i64 (-1), .int .i64 v0]]) (O22.re [1, 2, 3, 4, 5, 0] rfl : Own Z w0 w19.drew [.blk lc 75 #[.func (.func fl) #[] #[]], .blk pc 69 #[.func (.func 76) #[] #[.pointer (some ⟨lc, 0, none⟩), .pointer (some ⟨pc, 0, none⟩), .pointer (some ⟨oc, 0, none⟩)]], .blk oc 23 #[.slice A n c], .row (.slice A n c) 38 3 n (ncells l), .ro D (fun w => IntsD D w (.slice (some ⟨bl, ol, none⟩) L0.length cl) L0), .blk g6 38 #[.int .i64 (-1), .int .i64 (-1), .int .i64 v0]])
      refine ((IH s (g m) cc (by omega) (by omega) (by omega) (by omega) _ _ _ _ _ _ l O27h (by omega))).mono ?_
      rintro _ w25 ⟨A23, c24, rfl, h26⟩
      have O27 : Own Z w0 w25 [.blk lc 75 #[.func (.func fl) #[] #[]], .blk pc 69 #[.func (.func 76) #[] #[.pointer (some ⟨lc, 0, none⟩), .pointer (some ⟨pc, 0, none⟩), .pointer (some ⟨oc, 0, none⟩)]], .blk oc 23 #[.slice A23 (n + Tr.size (mkT g k ((L0.drop s).take (g m)))) c24], .row (.slice A23 (n + Tr.size (mkT g k ((L0.drop s).take (g m)))) c24) 38 3 (n + Tr.size (mkT g k ((L0.drop s).take (g m)))) (ncells (l ++ post (mkT g k ((L0.drop s).take (g m))) n)), .ro D (fun w => IntsD D w (.slice (some ⟨bl, ol, none⟩) L0.length cl) L0), .blk g6 38 #[.int .i64 (-1), .int .i64 (-1), .int .i64 v0]] := Own.frame (A := [.blk lc 75 #[.func (.func fl) #[] #[]], .blk pc 69 #[.func (.func 76) #[] #[.pointer (some ⟨lc, 0, none⟩), .pointer (some ⟨pc, 0, none⟩), .pointer (some ⟨oc, 0, none⟩)]], .blk oc 23 #[.slice A n c], .row (.slice A n c) 38 3 n (ncells l), .ro D (fun w => IntsD D w (.slice (some ⟨bl, ol, none⟩) L0.length cl) L0)]) (R := [.blk g6 38 #[.int .i64 (-1), .int .i64 (-1), .int .i64 v0]]) (O22.re [1, 2, 3, 4, 5, 0] rfl : Own Z w0 w19.drew [.blk lc 75 #[.func (.func fl) #[] #[]], .blk pc 69 #[.func (.func 76) #[] #[.pointer (some ⟨lc, 0, none⟩), .pointer (some ⟨pc, 0, none⟩), .pointer (some ⟨oc, 0, none⟩)]], .blk oc 23 #[.slice A n c], .row (.slice A n c) 38 3 n (ncells l), .ro D (fun w => IntsD D w (.slice (some ⟨bl, ol, none⟩) L0.length cl) L0), .blk g6 38 #[.int .i64 (-1), .int .i64 (-1), .int .i64 v0]]) h26
      refine ⟨_, rfl, (O27.re [5, 0, 1, 4] rfl : Own Z w0 w25 [.blk g6 38 #[.int .i64 (-1), .int .i64 (-1), .int .i64 v0], .blk lc 75 #[.func (.func fl) #[] #[]], .blk pc 69 #[.func (.func 76) #[] #[.pointer (some ⟨lc, 0, none⟩), .pointer (some ⟨pc, 0, none⟩), .pointer (some ⟨oc, 0, none⟩)]], .ro D (fun w => IntsD D w (.slice (some ⟨bl, ol, none⟩) L0.length cl) L0)]), ?_⟩
      refine wt2_callv (args := [.slice (some ⟨bl, ol + (s + g m), none⟩) (m - g m) (cc - g m)]) (all := [.slice (some ⟨bl, ol + (s + g m), none⟩) (m - g m) (cc - g m), .pointer (some ⟨lc, 0, none⟩), .pointer (some ⟨pc, 0, none⟩), .pointer (some ⟨oc, 0, none⟩)]) rfl in_76 rfl rfl rfl rfl rfl ?_
      have O32h := Own.hand (A := [.blk lc 75 #[.func (.func fl) #[] #[]], .blk pc 69 #[.func (.func 76) #[] #[.pointer (some ⟨lc, 0, none⟩), .pointer (some ⟨pc, 0, none⟩), .pointer (some ⟨oc, 0, none⟩)]], .blk oc 23 #[.slice A23 (n + Tr.size (mkT g k ((L0.drop s).take (g m)))) c24], .row (.slice A23 (n + Tr.size (mkT g k ((L0.drop s).take (g m)))) c24) 38 3 (n + Tr.size (mkT g k ((L0.drop s).take (g m)))) (ncells (l ++ post (mkT g k ((L0.drop s).take (g m))) n)), .ro D (fun w => IntsD D w (.slice (some ⟨bl, ol, none⟩) L0.length cl) L0)]) (R := [.blk g6 38 #[.int .i64 (-1), .int .i64 (-1), .int .i64 v0]]) O27
      refine ((IH (s + g m) (m - g m) (cc - g m) (by omega) (by omega) (by omega) (by omega) _ _ _ _ _ _ (l ++ post (mkT g k ((L0.drop s).take (g m))) n) O32h (by omega))).mono ?_
      rintro _ w30 ⟨A28, c29, rfl, h31⟩
      have O32 : Own Z w0 w30 [.blk lc 75 #[.func (.func fl) #[] #[]], .blk pc 69 #[.func (.func 76) #[] #[.pointer (some ⟨lc, 0, none⟩), .pointer (some ⟨pc, 0, none⟩), .pointer (some ⟨oc, 0, none⟩)]], .blk oc 23 #[.slice A28 ((n + Tr.size (mkT g k ((L0.drop s).take (g m)))) + Tr.size (mkT g k ((L0.drop (s + g m)).take (m - g m)))) c29], .row (.slice A28 ((n + Tr.size (mkT g k ((L0.drop s).take (g m)))) + Tr.size (mkT g k ((L0.drop (s + g m)).take (m - g m)))) c29) 38 3 ((n + Tr.size (mkT g k ((L0.drop s).take (g m)))) + Tr.size (mkT g k ((L0.drop (s + g m)).take (m - g m)))) (ncells ((l ++ post (mkT g k ((L0.drop s).take (g m))) n) ++ post (mkT g k ((L0.drop (s + g m)).take (m - g m))) (n + Tr.size (mkT g k ((L0.drop s).take (g m)))))), .ro D (fun w => IntsD D w (.slice (some ⟨bl, ol, none⟩) L0.length cl) L0), .blk g6 38 #[.int .i64 (-1), .int .i64 (-1), .int .i64 v0]] := Own.frame (A := [.blk lc 75 #[.func (.func fl) #[] #[]], .blk pc 69 #[.func (.func 76) #[] #[.pointer (some ⟨lc, 0, none⟩), .pointer (some ⟨pc, 0, none⟩), .pointer (some ⟨oc, 0, none⟩)]], .blk oc 23 #[.slice A23 (n + Tr.size (mkT g k ((L0.drop s).take (g m)))) c24], .row (.slice A23 (n + Tr.size (mkT g k ((L0.drop s).take (g m)))) c24) 38 3 (n + Tr.size (mkT g k ((L0.drop s).take (g m)))) (ncells (l ++ post (mkT g k ((L0.drop s).take (g m))) n)), .ro D (fun w => IntsD D w (.slice (some ⟨bl, ol, none⟩) L0.length cl) L0)]) (R := [.blk g6 38 #[.int .i64 (-1), .int .i64 (-1), .int .i64 v0]]) O27 h31
      refine ⟨_, rfl, (O32.re [5, 0, 1, 4] rfl : Own Z w0 w30 [.blk g6 38 #[.int .i64 (-1), .int .i64 (-1), .int .i64 v0], .blk lc 75 #[.func (.func fl) #[] #[]], .blk pc 69 #[.func (.func 76) #[] #[.pointer (some ⟨lc, 0, none⟩), .pointer (some ⟨pc, 0, none⟩), .pointer (some ⟨oc, 0, none⟩)]], .ro D (fun w => IntsD D w (.slice (some ⟨bl, ol, none⟩) L0.length cl) L0)]), ?_⟩
      refine wt1 (v := .agg #[.int .i64 ((n + Tr.size (mkT g k ((L0.drop s).take (g m))) - 1 : Nat) : Int), .int .i64 (((n + Tr.size (mkT g k ((L0.drop s).take (g m)))) + Tr.size (mkT g k ((L0.drop (s + g m)).take (m - g m))) - 1 : Nat) : Int), .int .i64 0]) rfl (fun ρ e W => ex_build (cells := #[.int .i64 ((n + Tr.size (mkT g k ((L0.drop s).take (g m))) - 1 : Nat) : Int), .int .i64 (((n + Tr.size (mkT g k ((L0.drop s).take (g m)))) + Tr.size (mkT g k ((L0.drop (s + g m)).take (m - g m))) - 1 : Nat) : Int), .int .i64 0]) st38 (e.parts rfl) rfl) rfl rfl ?_
      obtain ⟨w33, r34, O35, hs36⟩ := own_put (o := 0) (n := 3) (O32.re [5, 0, 1, 2, 3, 4] rfl : Own Z w0 w30 [.blk g6 38 #[.int .i64 (-1), .int .i64 (-1), .int .i64 v0], .blk lc 75 #[.func (.func fl) #[] #[]], .blk pc 69 #[.func (.func 76) #[] #[.pointer (some ⟨lc, 0, none⟩), .pointer (some ⟨pc, 0, none⟩), .pointer (some ⟨oc, 0, none⟩)]], .blk oc 23 #[.slice A28 ((n + Tr.size (mkT g k ((L0.drop s).take (g m)))) + Tr.size (mkT g k ((L0.drop (s + g m)).take (m - g m)))) c29], .row (.slice A28 ((n + Tr.size (mkT g k ((L0.drop s).take (g m)))) + Tr.size (mkT g k ((L0.drop (s + g m)).take (m - g m)))) c29) 38 3 ((n + Tr.size (mkT g k ((L0.drop s).take (g m)))) + Tr.size (mkT g k ((L0.drop (s + g m)).take (m - g m)))) (ncells ((l ++ post (mkT g k ((L0.drop s).take (g m))) n) ++ post (mkT g k ((L0.drop (s + g m)).take (m - g m))) (n + Tr.size (mkT g k ((L0.drop s).take (g m)))))), .ro D (fun w => IntsD D w (.slice (some ⟨bl, ol, none⟩) L0.length cl) L0)]) ty38 (.agg #[.int .i64 ((n + Tr.size (mkT g k ((L0.drop s).take (g m))) - 1 : Nat) : Int), .int .i64 (((n + Tr.size (mkT g k ((L0.drop s).take (g m)))) + Tr.size (mkT g k ((L0.drop (s + g m)).take (m - g m))) - 1 : Nat) : Int), .int .i64 0]) [.int .i64 ((n + Tr.size (mkT g k ((L0.drop s).take (g m))) - 1 : Nat) : Int), .int .i64 (((n + Tr.size (mkT g k ((L0.drop s).take (g m)))) + Tr.size (mkT g k ((L0.drop (s + g m)).take (m - g m))) - 1 : Nat) : Int), .int .i64 0] (cs' := #[.int .i64 ((n + Tr.size (mkT g k ((L0.drop s).take (g m))) - 1 : Nat) : Int), .int .i64 (((n + Tr.size (mkT g k ((L0.drop s).take (g m)))) + Tr.size (mkT g k ((L0.drop (s + g m)).take (m - g m))) - 1 : Nat) : Int), .int .i64 0]) rfl rfl rfl (Nat.le_of_ble_eq_true rfl) rfl
      refine wt3_none rfl (fun ρ e => r34 ρ _ _ _ _ _ _ (e _ _ rfl) (e _ _ rfl)) rfl ?_
      refine wt_nil ?_
      refine xw_next K16 ?_
      refine cw_seq (fun FK37 K37 => ?_)
      refine cw_region ?_
      refine wl_val (v := .slice A28 ((n + Tr.size (mkT g k ((L0.drop s).take (g m)))) + Tr.size (mkT g k ((L0.drop (s + g m)).take (m - g m)))) c29) (fun ρ e => ex_load1 ty23 (e _ _ rfl) (O35.cell 3 0 rfl rfl)) rfl rfl ?_
      refine wl_val (v := .agg #[.int .i64 ((n + Tr.size (mkT g k ((L0.drop s).take (g m))) - 1 : Nat) : Int), .int .i64 (((n + Tr.size (mkT g k ((L0.drop s).take (g m)))) + Tr.size (mkT g k ((L0.drop (s + g m)).take (m - g m))) - 1 : Nat) : Int), .int .i64 0]) (fun ρ e => ex_loadN (vs := [.int .i64 ((n + Tr.size (mkT g k ((L0.drop s).take (g m))) - 1 : Nat) : Int), .int .i64 (((n + Tr.size (mkT g k ((L0.drop s).take (g m)))) + Tr.size (mkT g k ((L0.drop (s + g m)).take (m - g m))) - 1 : Nat) : Int), .int .i64 0]) ty38 (e _ _ rfl) rfl (O35.cells 0 0 rfl rfl)) rfl rfl ?_
      obtain ⟨g38, w39, r40, O41, hg42, hs43⟩ := own_slice O35 el23 ze38 1 [(0, .agg #[.int .i64 ((n + Tr.size (mkT g k ((L0.drop s).take (g m))) - 1 : Nat) : Int), .int .i64 (((n + Tr.size (mkT g k ((L0.drop s).take (g m)))) + Tr.size (mkT g k ((L0.drop (s + g m)).take (m - g m))) - 1 : Nat) : Int), .int .i64 0])] (cs := #[.int .i64 ((n + Tr.size (mkT g k ((L0.drop s).take (g m))) - 1 : Nat) : Int), .int .i64 (((n + Tr.size (mkT g k ((L0.drop s).take (g m)))) + Tr.size (mkT g k ((L0.drop (s + g m)).take (m - g m))) - 1 : Nat) : Int), .int .i64 0]) (by decide) (by kernel_rfl)
      refine wl_val (v := .slice (some ⟨g38, 0, none⟩) 1 1) (fun ρ e => r40 ρ _ _ _ _ _ _ (e.parts rfl)) rfl rfl ?_
      obtain ⟨A44, c45, w46, r47, O48, hz49, hc50⟩ := own_app1 (O41.re [5, 0, 1, 2, 3, 4, 6] rfl : Own Z w0 w39 [.row (.slice A28 ((n + Tr.size (mkT g k ((L0.drop s).take (g m)))) + Tr.size (mkT g k ((L0.drop (s + g m)).take (m - g m)))) c29) 38 3 ((n + Tr.size (mkT g k ((L0.drop s).take (g m)))) + Tr.size (mkT g k ((L0.drop (s + g m)).take (m - g m)))) (ncells ((l ++ post (mkT g k ((L0.drop s).take (g m))) n) ++ post (mkT g k ((L0.drop (s + g m)).take (m - g m))) (n + Tr.size (mkT g k ((L0.drop s).take (g m)))))), .blk g38 38 #[.int .i64 ((n + Tr.size (mkT g k ((L0.drop s).take (g m))) - 1 : Nat) : Int), .int .i64 (((n + Tr.size (mkT g k ((L0.drop s).take (g m)))) + Tr.size (mkT g k ((L0.drop (s + g m)).take (m - g m))) - 1 : Nat) : Int), .int .i64 0], .blk g6 38 #[.int .i64 ((n + Tr.size (mkT g k ((L0.drop s).take (g m))) - 1 : Nat) : Int), .int .i64 (((n + Tr.size (mkT g k ((L0.drop s).take (g m)))) + Tr.size (mkT g k ((L0.drop (s + g m)).take (m - g m))) - 1 : Nat) : Int), .int .i64 0], .blk lc 75 #[.func (.func fl) #[] #[]], .blk pc 69 #[.func (.func 76) #[] #[.pointer (some ⟨lc, 0, none⟩), .pointer (some ⟨pc, 0, none⟩), .pointer (some ⟨oc, 0, none⟩)]], .blk oc 23 #[.slice A28 ((n + Tr.size (mkT g k ((L0.drop s).take (g m)))) + Tr.size (mkT g k ((L0.drop (s + g m)).take (m - g m)))) c29], .ro D (fun w => IntsD D w (.slice (some ⟨bl, ol, none⟩) L0.length cl) L0)]) ap23 ((O41.re [5, 0, 1, 2, 3, 4, 6] rfl : Own Z w0 w39 [.row (.slice A28 ((n + Tr.size (mkT g k ((L0.drop s).take (g m)))) + Tr.size (mkT g k ((L0.drop (s + g m)).take (m - g m)))) c29) 38 3 ((n + Tr.size (mkT g k ((L0.drop s).take (g m)))) + Tr.size (mkT g k ((L0.drop (s + g m)).take (m - g m)))) (ncells ((l ++ post (mkT g k ((L0.drop s).take (g m))) n) ++ post (mkT g k ((L0.drop (s + g m)).take (m - g m))) (n + Tr.size (mkT g k ((L0.drop s).take (g m)))))), .blk g38 38 #[.int .i64 ((n + Tr.size (mkT g k ((L0.drop s).take (g m))) - 1 : Nat) : Int), .int .i64 (((n + Tr.size (mkT g k ((L0.drop s).take (g m)))) + Tr.size (mkT g k ((L0.drop (s + g m)).take (m - g m))) - 1 : Nat) : Int), .int .i64 0], .blk g6 38 #[.int .i64 ((n + Tr.size (mkT g k ((L0.drop s).take (g m))) - 1 : Nat) : Int), .int .i64 (((n + Tr.size (mkT g k ((L0.drop s).take (g m)))) + Tr.size (mkT g k ((L0.drop (s + g m)).take (m - g m))) - 1 : Nat) : Int), .int .i64 0], .blk lc 75 #[.func (.func fl) #[] #[]], .blk pc 69 #[.func (.func 76) #[] #[.pointer (some ⟨lc, 0, none⟩), .pointer (some ⟨pc, 0, none⟩), .pointer (some ⟨oc, 0, none⟩)]], .blk oc 23 #[.slice A28 ((n + Tr.size (mkT g k ((L0.drop s).take (g m)))) + Tr.size (mkT g k ((L0.drop (s + g m)).take (m - g m)))) c29], .ro D (fun w => IntsD D w (.slice (some ⟨bl, ol, none⟩) L0.length cl) L0)]).blk 1 rfl) (cells := [.int .i64 ((n + Tr.size (mkT g k ((L0.drop s).take (g m))) - 1 : Nat) : Int), .int .i64 (((n + Tr.size (mkT g k ((L0.drop s).take (g m)))) + Tr.size (mkT g k ((L0.drop (s + g m)).take (m - g m))) - 1 : Nat) : Int), .int .i64 0]) rfl rfl (by omega) (by omega) (ys := (ncells (((l ++ post (mkT g k ((L0.drop s).take (g m))) n) ++ post (mkT g k ((L0.drop (s + g m)).take (m - g m))) (n + Tr.size (mkT g k ((L0.drop s).take (g m))))) ++ [(VN.mk ((n + Tr.size (mkT g k ((L0.drop s).take (g m))) - 1 : Nat) : Int) (((n + Tr.size (mkT g k ((L0.drop s).take (g m)))) + Tr.size (mkT g k ((L0.drop (s + g m)).take (m - g m))) - 1 : Nat) : Int) 0)]))) (ncells_snoc ((l ++ post (mkT g k ((L0.drop s).take (g m))) n) ++ post (mkT g k ((L0.drop (s + g m)).take (m - g m))) (n + Tr.size (mkT g k ((L0.drop s).take (g m))))) (VN.mk ((n + Tr.size (mkT g k ((L0.drop s).take (g m))) - 1 : Nat) : Int) (((n + Tr.size (mkT g k ((L0.drop s).take (g m)))) + Tr.size (mkT g k ((L0.drop (s + g m)).take (m - g m))) - 1 : Nat) : Int) 0))
      refine wl_val (v := .slice A44 (((n + Tr.size (mkT g k ((L0.drop s).take (g m)))) + Tr.size (mkT g k ((L0.drop (s + g m)).take (m - g m)))) + 1) c45) (fun ρ e => r47 ρ _ _ _ _ _ _ _ (e _ _ rfl) (e _ _ rfl)) rfl rfl ?_
      obtain ⟨w51, r52, O53, hs54⟩ := own_put (o := 0) (n := 1) (O48.re [5, 0, 1, 2, 3, 4, 6] rfl : Own Z w0 w46 [.blk oc 23 #[.slice A28 ((n + Tr.size (mkT g k ((L0.drop s).take (g m)))) + Tr.size (mkT g k ((L0.drop (s + g m)).take (m - g m)))) c29], .row (.slice A44 (((n + Tr.size (mkT g k ((L0.drop s).take (g m)))) + Tr.size (mkT g k ((L0.drop (s + g m)).take (m - g m)))) + 1) c45) 38 3 (((n + Tr.size (mkT g k ((L0.drop s).take (g m)))) + Tr.size (mkT g k ((L0.drop (s + g m)).take (m - g m)))) + 1) (ncells (((l ++ post (mkT g k ((L0.drop s).take (g m))) n) ++ post (mkT g k ((L0.drop (s + g m)).take (m - g m))) (n + Tr.size (mkT g k ((L0.drop s).take (g m))))) ++ [(VN.mk ((n + Tr.size (mkT g k ((L0.drop s).take (g m))) - 1 : Nat) : Int) (((n + Tr.size (mkT g k ((L0.drop s).take (g m)))) + Tr.size (mkT g k ((L0.drop (s + g m)).take (m - g m))) - 1 : Nat) : Int) 0)])), .blk g38 38 #[.int .i64 ((n + Tr.size (mkT g k ((L0.drop s).take (g m))) - 1 : Nat) : Int), .int .i64 (((n + Tr.size (mkT g k ((L0.drop s).take (g m)))) + Tr.size (mkT g k ((L0.drop (s + g m)).take (m - g m))) - 1 : Nat) : Int), .int .i64 0], .blk g6 38 #[.int .i64 ((n + Tr.size (mkT g k ((L0.drop s).take (g m))) - 1 : Nat) : Int), .int .i64 (((n + Tr.size (mkT g k ((L0.drop s).take (g m)))) + Tr.size (mkT g k ((L0.drop (s + g m)).take (m - g m))) - 1 : Nat) : Int), .int .i64 0], .blk lc 75 #[.func (.func fl) #[] #[]], .blk pc 69 #[.func (.func 76) #[] #[.pointer (some ⟨lc, 0, none⟩), .pointer (some ⟨pc, 0, none⟩), .pointer (some ⟨oc, 0, none⟩)]], .ro D (fun w => IntsD D w (.slice (some ⟨bl, ol, none⟩) L0.length cl) L0)]) ty23 (.slice A44 (((n + Tr.size (mkT g k ((L0.drop s).take (g m)))) + Tr.size (mkT g k ((L0.drop (s + g m)).take (m - g m)))) + 1) c45) [.slice A44 (((n + Tr.size (mkT g k ((L0.drop s).take (g m)))) + Tr.size (mkT g k ((L0.drop (s + g m)).take (m - g m)))) + 1) c45] (cs' := #[.slice A44 (((n + Tr.size (mkT g k ((L0.drop s).take (g m)))) + Tr.size (mkT g k ((L0.drop (s + g m)).take (m - g m)))) + 1) c45]) rfl rfl rfl (Nat.le_of_ble_eq_true rfl) rfl
      refine wl_none (fun ρ e => r52 ρ _ _ _ _ _ _ (e _ _ rfl) (e _ _ rfl)) rfl ?_
      refine wl_nil ?_
      refine xw_next K37 ?_
      refine cw_seq (fun FK55 K55 => ?_)
      refine cw_region ?_
      refine wl_val (v := .slice A44 (((n + Tr.size (mkT g k ((L0.drop s).take (g m)))) + Tr.size (mkT g k ((L0.drop (s + g m)).take (m - g m)))) + 1) c45) (fun ρ e => ex_load1 ty23 (e _ _ rfl) (O53.cell 0 0 rfl rfl)) rfl rfl ?_
      refine wl_val (v := .int .i64 ((((n + Tr.size (mkT g k ((L0.drop s).take (g m)))) + Tr.size (mkT g k ((L0.drop (s + g m)).take (m - g m)))) + 1 : Nat) : Int)) (fun ρ e => ex_len el23 (e _ _ rfl)) rfl rfl ?_
      refine wl_val (v := .int .i64 ((((n + Tr.size (mkT g k ((L0.drop s).take (g m)))) + Tr.size (mkT g k ((L0.drop (s + g m)).take (m - g m)))) + 1 - 1 : Nat) : Int)) (fun ρ e => ex_arith (k := .i64) (u := ((((n + Tr.size (mkT g k ((L0.drop s).take (g m)))) + Tr.size (mkT g k ((L0.drop (s + g m)).take (m - g m)))) + 1 : Nat) : Int)) (v := 1) (e _ _ rfl) (e _ _ rfl) (congrArg some ((congrArg _ (show _ = ((((n + Tr.size (mkT g k ((L0.drop s).take (g m)))) + Tr.size (mkT g k ((L0.drop (s + g m)).take (m - g m)))) + 1 - 1 : Nat) : Int) by omega)).trans (wrap_in (by omega) (by omega))))) rfl rfl ?_
      refine wl_val (v := .int .i64 ((((n + Tr.size (mkT g k ((L0.drop s).take (g m)))) + Tr.size (mkT g k ((L0.drop (s + g m)).take (m - g m)))) + 1 - 1 : Nat) : Int)) (fun ρ e => ex_assign (e _ _ rfl)) rfl rfl ?_
      refine wl_nil ?_
      refine xw_next K55 ?_
      refine cw_ret ?_
      refine xw_ret (v := .int .i64 ((((n + Tr.size (mkT g k ((L0.drop s).take (g m)))) + Tr.size (mkT g k ((L0.drop (s + g m)).take (m - g m)))) + 1 - 1 : Nat) : Int)) (fun T hT => res1 rfl T _ (hT 5 _ rfl)) ?_
      have hn : ((n + Tr.size (mkT g k ((L0.drop s).take (g m)))) + Tr.size (mkT g k ((L0.drop (s + g m)).take (m - g m)))) + 1 = n + Tr.size (mkT g (k + 1) ((L0.drop s).take m)) := by rw [hT]; simp only [Tr.size] <;> omega
      have hl : (((l ++ post (mkT g k ((L0.drop s).take (g m))) n) ++ post (mkT g k ((L0.drop (s + g m)).take (m - g m))) (n + Tr.size (mkT g k ((L0.drop s).take (g m))))) ++ [(VN.mk ((n + Tr.size (mkT g k ((L0.drop s).take (g m))) - 1 : Nat) : Int) (((n + Tr.size (mkT g k ((L0.drop s).take (g m)))) + Tr.size (mkT g k ((L0.drop (s + g m)).take (m - g m))) - 1 : Nat) : Int) 0)]) = l ++ post (mkT g (k + 1) ((L0.drop s).take m)) n := by rw [hT]; simp [post]
      have hO := (O53.re [4, 5, 0, 1, 6] rfl : Own Z w0 w51 [.blk lc 75 #[.func (.func fl) #[] #[]], .blk pc 69 #[.func (.func 76) #[] #[.pointer (some ⟨lc, 0, none⟩), .pointer (some ⟨pc, 0, none⟩), .pointer (some ⟨oc, 0, none⟩)]], .blk oc 23 #[.slice A44 (((n + Tr.size (mkT g k ((L0.drop s).take (g m)))) + Tr.size (mkT g k ((L0.drop (s + g m)).take (m - g m)))) + 1) c45], .row (.slice A44 (((n + Tr.size (mkT g k ((L0.drop s).take (g m)))) + Tr.size (mkT g k ((L0.drop (s + g m)).take (m - g m)))) + 1) c45) 38 3 (((n + Tr.size (mkT g k ((L0.drop s).take (g m)))) + Tr.size (mkT g k ((L0.drop (s + g m)).take (m - g m)))) + 1) (ncells (((l ++ post (mkT g k ((L0.drop s).take (g m))) n) ++ post (mkT g k ((L0.drop (s + g m)).take (m - g m))) (n + Tr.size (mkT g k ((L0.drop s).take (g m))))) ++ [(VN.mk ((n + Tr.size (mkT g k ((L0.drop s).take (g m))) - 1 : Nat) : Int) (((n + Tr.size (mkT g k ((L0.drop s).take (g m)))) + Tr.size (mkT g k ((L0.drop (s + g m)).take (m - g m))) - 1 : Nat) : Int) 0)])), .ro D (fun w => IntsD D w (.slice (some ⟨bl, ol, none⟩) L0.length cl) L0)])
      rw [hn, hl] at hO
      exact ⟨A44, c45, congrArg (fun z : Nat => Ending.returned (.int .i64 (z : Int))) (show ((n + Tr.size (mkT g k ((L0.drop s).take (g m)))) + Tr.size (mkT g k ((L0.drop (s + g m)).take (m - g m)))) + 1 - 1 = n + Tr.size (mkT g (k + 1) ((L0.drop s).take m)) - 1 by rw [hT]; simp only [Tr.size] <;> omega), hO⟩
theorem orderedb_ {W : World} {D : Nat → Prop} {V : Value} {l : List Int} (hI : IntsD D W V l) (hD : ∀ k, D k → k < W.heap.size) (hsz : l.length ≤ 1000000) {r : Bool} (h : ordB l = r) :
    Calls Tryd.prog 75 #[V] W fun e w' => e = .returned (.bool r) ∧ Below W.heap.size W w' := h ▸ ordered_ hI hD hsz
theorem range_few {l : List Int} (h : opreB l = true) : l.length ≤ 128 := by
  obtain ⟨h1, h2⟩ := opreB_iff.1 h
  have h3 : (l.map fun v => v - 1).Nodup := by
    rw [List.nodup_iff_pairwise_ne, List.pairwise_map]
    exact (List.nodup_iff_pairwise_ne.1 h2).imp (fun h e => h (by omega))
  have := range_len (n := 128) h3 (fun x hx => by
    obtain ⟨v, hv, rfl⟩ := List.mem_map.1 hx
    have := h1 v hv
    omega)
  simpa using this
theorem IntsD.cap {D : Nat → Prop} {w : World} {A : Option Addr} {n c : Nat} {xs : List Int} (h : IntsD D w (.slice A n c) xs) : xs.length ≤ c := by
  obtain ⟨A', c', h1, h2, _⟩ := h
  injection h1 with _ _ h1
  omega
theorem build_ {W : World} {D : Nat → Prop} {V : Value} {L0 : List Int} (hI : IntsD D W V L0) (hD : ∀ k, D k → k < W.heap.size) (hsz : L0.length ≤ 1000000) {kind : Nat} {g : Nat → Nat} (hgk : g = gOf kind) {fl : FuncId} (hin : Enters Tryd.prog fl) (HL : ∀ (m : Nat) (W : World), 2 ≤ m → m ≤ 1000000 → Calls Tryd.prog fl #[.int .i64 (m : Int)] W fun e w' => e = .returned (.int .i64 ((g m : Nat) : Int)) ∧ Below W.heap.size W w') (hg : ∀ m, 2 ≤ m → 1 ≤ g m ∧ g m < m) :
    Calls Tryd.prog 54 #[V, .func (.func fl) #[] #[]] W fun e w' => ∃ A' c', e = .returned (.tuple #[.slice A' (makeOf kind L0).1.length c', .int .i64 (makeOf kind L0).2]) ∧ Own Z0 W w' [.row (.slice A' (makeOf kind L0).1.length c') 38 3 (makeOf kind L0).1.length (ncells (makeOf kind L0).1)] := by
  obtain ⟨A, cl, rfl⟩ := hI.slice
  have O0 : Own Z0 W W [] := Own.start W
  refine sx_enter (args := [.slice A L0.length cl, .func (.func fl) #[] #[]]) Tryd.func54 rfl rfl (by simp) ?_
  refine cw_seq (fun FK1 K1 => ?_)
  refine cw_region ?_
  obtain ⟨g2, w3, r4, O5, hg6, hs7⟩ := own_box O0 75 (.func (.func fl) #[] #[]) rfl
  refine wl_val (v := .pointer (some ⟨g2, 0, none⟩)) (fun ρ e => r4 ρ _ _ _ _ _ _ (e _ _ rfl)) rfl rfl ?_
  refine wl_val (v := .slice none 0 0) (fun ρ e => ex_assign (e _ _ rfl)) rfl rfl ?_
  refine wl_val (v := .int .i64 0) (fun ρ e => ex_assign (e _ _ rfl)) rfl rfl ?_
  refine wl_nil ?_
  refine xw_next K1 ?_
  refine cw_seq (fun FK8 K8 => ?_)
  refine cw_seq (fun FK9 K9 => ?_)
  refine cw_region ?_
  refine wl_val (v := .slice A L0.length cl) (fun ρ e => ex_move (e _ _ rfl)) rfl rfl ?_
  by_cases c10 : (ordB L0) = true
  · skip
    have hlp := (ordB_iff.1 c10).1
    have hl128 := range_few (ordB_iff.1 c10).2
    obtain ⟨bl, ol, c', hv0⟩ := hI.form hlp
    injection hv0 with hA _ hc
    subst hA hc
    have hcl : L0.length ≤ cl := hI.cap
    have O11 := O5.oldro (D := D) (p := (fun w => IntsD D w (.slice (some ⟨bl, ol, none⟩) L0.length cl) L0)) (inE_holds hI hD)
    refine wl_call (args := [.slice (some ⟨bl, ol, none⟩) L0.length cl]) in_75 rfl rfl rfl ?_
    refine (orderedb_ (hI.move (fun k hk => (O11.old).block k (hD k hk))) (fun k hk => Nat.lt_of_lt_of_le (hD k hk) (O11.old).size) (by omega) (show ordB L0 = true from c10)).mono ?_
    rintro _ w12 ⟨rfl, hb13⟩
    have O14 : Own Z0 W w12 [.ro D (fun w => IntsD D w (.slice (some ⟨bl, ol, none⟩) L0.length cl) L0), .blk g2 75 #[.func (.func fl) #[] #[]]] := O11.below hb13
    refine ⟨_, rfl, ?_⟩
    refine wl_val (v := .bool false) (fun ρ e => ex_lnot (b := true) (e _ _ rfl)) rfl rfl ?_
    refine wl_nil ?_
    refine xw_next K9 ?_
    refine cw_false rfl ?_
    refine cw_skip ?_
    refine xw_next K8 ?_
    refine cw_seq (fun FK15 K15 => ?_)
    refine cw_region ?_
    obtain ⟨g16, w17, r18, O19, hg20, hs21⟩ := own_alloc O14 23 ze23 rfl
    refine wl_val (v := .pointer (some ⟨g16, 0, none⟩)) (fun ρ e => r18 ρ _ _ _ _ _) rfl rfl ?_
    refine wl_nil ?_
    refine xw_next K15 ?_
    refine cw_seq (fun FK22 K22 => ?_)
    refine cw_region ?_
    obtain ⟨g23, w24, r25, O26, hg27, hs28⟩ := own_alloc O19 69 ze69 rfl
    refine wl_val (v := .pointer (some ⟨g23, 0, none⟩)) (fun ρ e => r25 ρ _ _ _ _ _) rfl rfl ?_
    refine wl_nil ?_
    refine xw_next K22 ?_
    refine cw_seq (fun FK29 K29 => ?_)
    refine cw_region ?_
    refine wl_val (v := .func (.func 76) #[] #[.pointer (some ⟨g2, 0, none⟩), .pointer (some ⟨g23, 0, none⟩), .pointer (some ⟨g16, 0, none⟩)]) (fun ρ e => ex_func (us := []) (vs := [.pointer (some ⟨g2, 0, none⟩), .pointer (some ⟨g23, 0, none⟩), .pointer (some ⟨g16, 0, none⟩)]) (e.list rfl) (e.list rfl)) rfl rfl ?_
    obtain ⟨w30, r31, O32, hs33⟩ := own_put (o := 0) (n := 1) O26 ty69 (.func (.func 76) #[] #[.pointer (some ⟨g2, 0, none⟩), .pointer (some ⟨g23, 0, none⟩), .pointer (some ⟨g16, 0, none⟩)]) [.func (.func 76) #[] #[.pointer (some ⟨g2, 0, none⟩), .pointer (some ⟨g23, 0, none⟩), .pointer (some ⟨g16, 0, none⟩)]] (cs' := #[.func (.func 76) #[] #[.pointer (some ⟨g2, 0, none⟩), .pointer (some ⟨g23, 0, none⟩), .pointer (some ⟨g16, 0, none⟩)]]) rfl rfl rfl (Nat.le_of_ble_eq_true rfl) rfl
    refine wl_none (fun ρ e => r31 ρ _ _ _ _ _ _ (e _ _ rfl) (e _ _ rfl)) rfl ?_
    refine wl_nil ?_
    refine xw_next K29 ?_
    refine cw_seq (fun FK34 K34 => ?_)
    refine cw_region ?_
    refine wl_val (v := .func (.func 76) #[] #[.pointer (some ⟨g2, 0, none⟩), .pointer (some ⟨g23, 0, none⟩), .pointer (some ⟨g16, 0, none⟩)]) (fun ρ e => ex_load1 ty69 (e _ _ rfl) (O32.cell 0 0 rfl rfl)) rfl rfl ?_
    refine wl_val (v := .slice (some ⟨bl, ol, none⟩) L0.length cl) (fun ρ e => ex_move (e _ _ rfl)) rfl rfl ?_
    refine wl_callv (args := [.slice (some ⟨bl, ol, none⟩) L0.length cl]) (all := [.slice (some ⟨bl, ol, none⟩) L0.length cl, .pointer (some ⟨g2, 0, none⟩), .pointer (some ⟨g23, 0, none⟩), .pointer (some ⟨g16, 0, none⟩)]) in_76 rfl rfl rfl rfl rfl ?_
    have O35 : Own Z0 W w30 [.row (.slice none 0 0) 38 3 0 (ncells []), .blk g23 69 #[.func (.func 76) #[] #[.pointer (some ⟨g2, 0, none⟩), .pointer (some ⟨g23, 0, none⟩), .pointer (some ⟨g16, 0, none⟩)]], .blk g16 23 #[.slice none 0 0], .ro D (fun w => IntsD D w (.slice (some ⟨bl, ol, none⟩) L0.length cl) L0), .blk g2 75 #[.func (.func fl) #[] #[]]] := O32.nilrow 38 3
    have O40h := Own.hand (A := [.blk g2 75 #[.func (.func fl) #[] #[]], .blk g23 69 #[.func (.func 76) #[] #[.pointer (some ⟨g2, 0, none⟩), .pointer (some ⟨g23, 0, none⟩), .pointer (some ⟨g16, 0, none⟩)]], .blk g16 23 #[.slice none 0 0], .row (.slice none 0 0) 38 3 0 (ncells []), .ro D (fun w => IntsD D w (.slice (some ⟨bl, ol, none⟩) L0.length cl) L0)]) (R := []) (O35.re [4, 1, 2, 0, 3] rfl : Own Z0 W w30 [.blk g2 75 #[.func (.func fl) #[] #[]], .blk g23 69 #[.func (.func 76) #[] #[.pointer (some ⟨g2, 0, none⟩), .pointer (some ⟨g23, 0, none⟩), .pointer (some ⟨g16, 0, none⟩)]], .blk g16 23 #[.slice none 0 0], .row (.slice none 0 0) 38 3 0 (ncells []), .ro D (fun w => IntsD D w (.slice (some ⟨bl, ol, none⟩) L0.length cl) L0)])
    have hwh : (L0.drop 0).take L0.length = L0 := by rw [List.drop_zero, List.take_length]
    have hpt := (part_ hin HL hg L0.length 0 L0.length cl (by omega) (by omega) (by omega) hcl _ _ _ _ _ _ [] O40h (by omega))
    rw [hwh] at hpt
    refine (hpt).mono ?_
    rintro _ w38 ⟨A36, c37, rfl, h39⟩
    have O40 : Own Z0 W w38 [.blk g2 75 #[.func (.func fl) #[] #[]], .blk g23 69 #[.func (.func 76) #[] #[.pointer (some ⟨g2, 0, none⟩), .pointer (some ⟨g23, 0, none⟩), .pointer (some ⟨g16, 0, none⟩)]], .blk g16 23 #[.slice A36 (0 + Tr.size (mkT g L0.length L0)) c37], .row (.slice A36 (0 + Tr.size (mkT g L0.length L0)) c37) 38 3 (0 + Tr.size (mkT g L0.length L0)) (ncells ([] ++ post (mkT g L0.length L0) 0)), .ro D (fun w => IntsD D w (.slice (some ⟨bl, ol, none⟩) L0.length cl) L0)] := Own.frame (A := [.blk g2 75 #[.func (.func fl) #[] #[]], .blk g23 69 #[.func (.func 76) #[] #[.pointer (some ⟨g2, 0, none⟩), .pointer (some ⟨g23, 0, none⟩), .pointer (some ⟨g16, 0, none⟩)]], .blk g16 23 #[.slice none 0 0], .row (.slice none 0 0) 38 3 0 (ncells []), .ro D (fun w => IntsD D w (.slice (some ⟨bl, ol, none⟩) L0.length cl) L0)]) (R := []) (O35.re [4, 1, 2, 0, 3] rfl : Own Z0 W w30 [.blk g2 75 #[.func (.func fl) #[] #[]], .blk g23 69 #[.func (.func 76) #[] #[.pointer (some ⟨g2, 0, none⟩), .pointer (some ⟨g23, 0, none⟩), .pointer (some ⟨g16, 0, none⟩)]], .blk g16 23 #[.slice none 0 0], .row (.slice none 0 0) 38 3 0 (ncells []), .ro D (fun w => IntsD D w (.slice (some ⟨bl, ol, none⟩) L0.length cl) L0)]) h39
    refine ⟨_, rfl, ?_⟩
    refine wl_nil ?_
    refine xw_next K34 ?_
    refine cw_seq (fun FK41 K41 => ?_)
    refine cw_region ?_
    refine wl_val (v := .slice A36 (0 + Tr.size (mkT g L0.length L0)) c37) (fun ρ e => ex_load1 ty23 (e _ _ rfl) (O40.cell 2 0 rfl rfl)) rfl rfl ?_
    refine wl_val (v := .slice A36 (0 + Tr.size (mkT g L0.length L0)) c37) (fun ρ e => ex_assign (e _ _ rfl)) rfl rfl ?_
    refine wl_val (v := .int .i64 0) (fun ρ e => ex_assign (e _ _ rfl)) rfl rfl ?_
    refine wl_nil ?_
    refine xw_next K41 ?_
    refine cw_ret ?_
    refine xw_ret (v := .tuple #[.slice A36 (0 + Tr.size (mkT g L0.length L0)) c37, .int .i64 0]) (fun T hT => res2 rfl T _ (hT 4 _ rfl) (hT 5 _ rfl)) ?_
    have hm : makeOf kind L0 = (post (mkT g L0.length L0) 0, 0) := by unfold makeOf; rw [c10, ← hgk]; rfl
    rw [hm]
    simp only [post_len]
    have hO := (O40.re [3] rfl : Own Z0 W w38 [.row (.slice A36 (0 + Tr.size (mkT g L0.length L0)) c37) 38 3 (0 + Tr.size (mkT g L0.length L0)) (ncells ([] ++ post (mkT g L0.length L0) 0))])
    rw [Nat.zero_add, List.nil_append] at hO
    exact ⟨A36, c37, by rw [Nat.zero_add], hO⟩
  · skip
    refine wl_call (args := [.slice A L0.length cl]) in_75 rfl rfl rfl ?_
    refine (orderedb_ (hI.move (fun k hk => (O5.old).block k (hD k hk))) (fun k hk => Nat.lt_of_lt_of_le (hD k hk) (O5.old).size) (by omega) (show ordB L0 = false from Bool.eq_false_iff.2 c10)).mono ?_
    rintro _ w42 ⟨rfl, hb43⟩
    have O44 : Own Z0 W w42 [.blk g2 75 #[.func (.func fl) #[] #[]]] := O5.below hb43
    refine ⟨_, rfl, ?_⟩
    refine wl_val (v := .bool true) (fun ρ e => ex_lnot (b := false) (e _ _ rfl)) rfl rfl ?_
    refine wl_nil ?_
    refine xw_next K9 ?_
    refine cw_true rfl ?_
    refine cw_seq (fun FK45 K45 => ?_)
    refine cw_region ?_
    refine wl_val (v := .slice none 0 0) (fun ρ e => ex_assign (e _ _ rfl)) rfl rfl ?_
    refine wl_val (v := .int .i64 1) (fun ρ e => ex_assign (e _ _ rfl)) rfl rfl ?_
    refine wl_nil ?_
    refine xw_next K45 ?_
    refine cw_ret ?_
    refine xw_past (by intro h; cases h) ?_
    refine xw_ret (v := .tuple #[.slice none 0 0, .int .i64 1]) (fun T hT => res2 rfl T _ (hT 4 _ rfl) (hT 5 _ rfl)) ?_
    have hm : makeOf kind L0 = ([], 1) := by unfold makeOf; rw [Bool.eq_false_iff.2 c10]; rfl
    rw [hm]
    have O46 := O44.nilrow 38 3
    exact ⟨none, 0, rfl, O46.re [0] rfl⟩
theorem right_ {W : World} {D : Nat → Prop} {V : Value} {L0 : List Int} (hI : IntsD D W V L0) (hD : ∀ k, D k → k < W.heap.size) (hsz : L0.length ≤ 1000000) :
    Calls Tryd.prog 24 #[V] W fun e w' => ∃ A' c', e = .returned (.tuple #[.slice A' (makeOf 1 L0).1.length c', .int .i64 (makeOf 1 L0).2]) ∧ Own Z0 W w' [.row (.slice A' (makeOf 1 L0).1.length c') 38 3 (makeOf 1 L0).1.length (ncells (makeOf 1 L0).1)] := by
  obtain ⟨A, cl, rfl⟩ := hI.slice
  have O0 : Own Z0 W W [] := Own.start W
  refine sx_enter (args := [.slice A L0.length cl]) Tryd.func24 rfl rfl (by simp) ?_
  refine cw_seq (fun FK1 K1 => ?_)
  refine cw_region ?_
  refine wl_val (v := .slice none 0 0) (fun ρ e => ex_assign (e _ _ rfl)) rfl rfl ?_
  refine wl_val (v := .int .i64 0) (fun ρ e => ex_assign (e _ _ rfl)) rfl rfl ?_
  refine wl_nil ?_
  refine xw_next K1 ?_
  refine cw_seq (fun FK2 K2 => ?_)
  refine cw_region ?_
  refine wl_val (v := .slice A L0.length cl) (fun ρ e => ex_move (e _ _ rfl)) rfl rfl ?_
  refine wl_call (args := [.slice A L0.length cl, .func (.func 55) #[] #[]]) in_54 rfl rfl rfl ?_
  refine (build_ (kind := 1) (hI.move (fun k hk => (O0.old).block k (hD k hk))) (fun k hk => Nat.lt_of_lt_of_le (hD k hk) (O0.old).size) hsz rfl in_55 (fun m W h h2 => part55 h h2) (gOf_good 1)).mono ?_
  rintro _ w5 ⟨A3, c4, rfl, h6⟩
  have O7 := O0.join1 h6 trivial
  refine ⟨_, rfl, ?_⟩
  refine wl_val (v := .slice A3 ((makeOf 1 L0).1.length) c4) (fun ρ e => ex_extract (vs := #[.slice A3 ((makeOf 1 L0).1.length) c4, .int .i64 ((makeOf 1 L0).2)]) (e _ _ rfl) rfl) rfl rfl ?_
  refine wl_val (v := .int .i64 ((makeOf 1 L0).2)) (fun ρ e => ex_extract (vs := #[.slice A3 ((makeOf 1 L0).1.length) c4, .int .i64 ((makeOf 1 L0).2)]) (e _ _ rfl) rfl) rfl rfl ?_
  refine wl_val (v := .slice A3 ((makeOf 1 L0).1.length) c4) (fun ρ e => ex_assign (e _ _ rfl)) rfl rfl ?_
  refine wl_val (v := .int .i64 ((makeOf 1 L0).2)) (fun ρ e => ex_assign (e _ _ rfl)) rfl rfl ?_
  refine wl_nil ?_
  refine xw_next K2 ?_
  refine cw_ret ?_
  refine xw_ret (v := .tuple #[.slice A3 ((makeOf 1 L0).1.length) c4, .int .i64 ((makeOf 1 L0).2)]) (fun T hT => res2 rfl T _ (hT 2 _ rfl) (hT 3 _ rfl)) ?_
  exact ⟨A3, c4, rfl, O7⟩
theorem left_ {W : World} {D : Nat → Prop} {V : Value} {L0 : List Int} (hI : IntsD D W V L0) (hD : ∀ k, D k → k < W.heap.size) (hsz : L0.length ≤ 1000000) :
    Calls Tryd.prog 25 #[V] W fun e w' => ∃ A' c', e = .returned (.tuple #[.slice A' (makeOf 2 L0).1.length c', .int .i64 (makeOf 2 L0).2]) ∧ Own Z0 W w' [.row (.slice A' (makeOf 2 L0).1.length c') 38 3 (makeOf 2 L0).1.length (ncells (makeOf 2 L0).1)] := by
  obtain ⟨A, cl, rfl⟩ := hI.slice
  have O0 : Own Z0 W W [] := Own.start W
  refine sx_enter (args := [.slice A L0.length cl]) Tryd.func25 rfl rfl (by simp) ?_
  refine cw_seq (fun FK1 K1 => ?_)
  refine cw_region ?_
  refine wl_val (v := .slice none 0 0) (fun ρ e => ex_assign (e _ _ rfl)) rfl rfl ?_
  refine wl_val (v := .int .i64 0) (fun ρ e => ex_assign (e _ _ rfl)) rfl rfl ?_
  refine wl_nil ?_
  refine xw_next K1 ?_
  refine cw_seq (fun FK2 K2 => ?_)
  refine cw_region ?_
  refine wl_val (v := .slice A L0.length cl) (fun ρ e => ex_move (e _ _ rfl)) rfl rfl ?_
  refine wl_call (args := [.slice A L0.length cl, .func (.func 56) #[] #[]]) in_54 rfl rfl rfl ?_
  refine (build_ (kind := 2) (hI.move (fun k hk => (O0.old).block k (hD k hk))) (fun k hk => Nat.lt_of_lt_of_le (hD k hk) (O0.old).size) hsz rfl in_56 (fun m W h h2 => part56 h h2) (gOf_good 2)).mono ?_
  rintro _ w5 ⟨A3, c4, rfl, h6⟩
  have O7 := O0.join1 h6 trivial
  refine ⟨_, rfl, ?_⟩
  refine wl_val (v := .slice A3 ((makeOf 2 L0).1.length) c4) (fun ρ e => ex_extract (vs := #[.slice A3 ((makeOf 2 L0).1.length) c4, .int .i64 ((makeOf 2 L0).2)]) (e _ _ rfl) rfl) rfl rfl ?_
  refine wl_val (v := .int .i64 ((makeOf 2 L0).2)) (fun ρ e => ex_extract (vs := #[.slice A3 ((makeOf 2 L0).1.length) c4, .int .i64 ((makeOf 2 L0).2)]) (e _ _ rfl) rfl) rfl rfl ?_
  refine wl_val (v := .slice A3 ((makeOf 2 L0).1.length) c4) (fun ρ e => ex_assign (e _ _ rfl)) rfl rfl ?_
  refine wl_val (v := .int .i64 ((makeOf 2 L0).2)) (fun ρ e => ex_assign (e _ _ rfl)) rfl rfl ?_
  refine wl_nil ?_
  refine xw_next K2 ?_
  refine cw_ret ?_
  refine xw_ret (v := .tuple #[.slice A3 ((makeOf 2 L0).1.length) c4, .int .i64 ((makeOf 2 L0).2)]) (fun T hT => res2 rfl T _ (hT 2 _ rfl) (hT 3 _ rfl)) ?_
  exact ⟨A3, c4, rfl, O7⟩
theorem balanced_ {W : World} {D : Nat → Prop} {V : Value} {L0 : List Int} (hI : IntsD D W V L0) (hD : ∀ k, D k → k < W.heap.size) (hsz : L0.length ≤ 1000000) :
    Calls Tryd.prog 26 #[V] W fun e w' => ∃ A' c', e = .returned (.tuple #[.slice A' (makeOf 3 L0).1.length c', .int .i64 (makeOf 3 L0).2]) ∧ Own Z0 W w' [.row (.slice A' (makeOf 3 L0).1.length c') 38 3 (makeOf 3 L0).1.length (ncells (makeOf 3 L0).1)] := by
  obtain ⟨A, cl, rfl⟩ := hI.slice
  have O0 : Own Z0 W W [] := Own.start W
  refine sx_enter (args := [.slice A L0.length cl]) Tryd.func26 rfl rfl (by simp) ?_
  refine cw_seq (fun FK1 K1 => ?_)
  refine cw_region ?_
  refine wl_val (v := .slice none 0 0) (fun ρ e => ex_assign (e _ _ rfl)) rfl rfl ?_
  refine wl_val (v := .int .i64 0) (fun ρ e => ex_assign (e _ _ rfl)) rfl rfl ?_
  refine wl_nil ?_
  refine xw_next K1 ?_
  refine cw_seq (fun FK2 K2 => ?_)
  refine cw_region ?_
  refine wl_val (v := .slice A L0.length cl) (fun ρ e => ex_move (e _ _ rfl)) rfl rfl ?_
  refine wl_call (args := [.slice A L0.length cl, .func (.func 57) #[] #[]]) in_54 rfl rfl rfl ?_
  refine (build_ (kind := 3) (hI.move (fun k hk => (O0.old).block k (hD k hk))) (fun k hk => Nat.lt_of_lt_of_le (hD k hk) (O0.old).size) hsz rfl in_57 (fun m W h h2 => part57 h h2) (gOf_good 3)).mono ?_
  rintro _ w5 ⟨A3, c4, rfl, h6⟩
  have O7 := O0.join1 h6 trivial
  refine ⟨_, rfl, ?_⟩
  refine wl_val (v := .slice A3 ((makeOf 3 L0).1.length) c4) (fun ρ e => ex_extract (vs := #[.slice A3 ((makeOf 3 L0).1.length) c4, .int .i64 ((makeOf 3 L0).2)]) (e _ _ rfl) rfl) rfl rfl ?_
  refine wl_val (v := .int .i64 ((makeOf 3 L0).2)) (fun ρ e => ex_extract (vs := #[.slice A3 ((makeOf 3 L0).1.length) c4, .int .i64 ((makeOf 3 L0).2)]) (e _ _ rfl) rfl) rfl rfl ?_
  refine wl_val (v := .slice A3 ((makeOf 3 L0).1.length) c4) (fun ρ e => ex_assign (e _ _ rfl)) rfl rfl ?_
  refine wl_val (v := .int .i64 ((makeOf 3 L0).2)) (fun ρ e => ex_assign (e _ _ rfl)) rfl rfl ?_
  refine wl_nil ?_
  refine xw_next K2 ?_
  refine cw_ret ?_
  refine xw_ret (v := .tuple #[.slice A3 ((makeOf 3 L0).1.length) c4, .int .i64 ((makeOf 3 L0).2)]) (fun T hT => res2 rfl T _ (hT 2 _ rfl) (hT 3 _ rfl)) ?_
  exact ⟨A3, c4, rfl, O7⟩

end Go.Proofs.YtpeoodkepjhhiaaDoor
namespace Go.Proofs.YtpeoodkepjhhiaaDoor
open Go Go.RowKit
theorem read_ {W : World} (s : ByteArray) (tab : Tab W) : Calls Tryd.prog 47 #[.string s] W fun e w' => ∃ A' c', e = .returned (.slice A' (parseOf s.data.toList).1.length c') ∧ Own Z0 W w' [.row (.slice A' (parseOf s.data.toList).1.length c') 38 3 (parseOf s.data.toList).1.length (ncells (parseOf s.data.toList).1)] := by
  have O0 : Own Z0 W W [] := Own.start W
  refine sx_enter (args := [.string s]) Tryd.func47 rfl rfl (by simp) ?_
  refine cw_seq (fun FK1 K1 => ?_)
  refine cw_region ?_
  refine wl_val (v := .slice none 0 0) (fun ρ e => ex_assign (e _ _ rfl)) rfl rfl ?_
  refine wl_nil ?_
  refine xw_next K1 ?_
  refine cw_seq (fun FK2 K2 => ?_)
  refine cw_region ?_
  refine wl_val (v := .string s) (fun ρ e => ex_move (e _ _ rfl)) rfl rfl ?_
  refine wl_call (args := [.string s]) in_17 rfl rfl rfl ?_
  have hc8 := parse_ s (tab.below (Nat.le_refl _) O0.old)
  refine hc8.mono ?_
  rintro _ w5 ⟨A3, c4, rfl, h6⟩
  have O7 := O0.join1 h6 trivial
  refine ⟨_, rfl, ?_⟩
  refine wl_val (v := .tuple #[.slice A3 ((parseOf s.data.toList).1.length) c4, .int .i64 ((parseOf s.data.toList).2)]) (fun ρ e => ex_move (e _ _ rfl)) rfl rfl ?_
  refine wl_val (v := .slice A3 ((parseOf s.data.toList).1.length) c4) (fun ρ e => ex_extract (vs := #[.slice A3 ((parseOf s.data.toList).1.length) c4, .int .i64 ((parseOf s.data.toList).2)]) (e _ _ rfl) rfl) rfl rfl ?_
  refine wl_val (v := .int .i64 ((parseOf s.data.toList).2)) (fun ρ e => ex_extract (vs := #[.slice A3 ((parseOf s.data.toList).1.length) c4, .int .i64 ((parseOf s.data.toList).2)]) (e _ _ rfl) rfl) rfl rfl ?_
  refine wl_val (v := .slice A3 ((parseOf s.data.toList).1.length) c4) (fun ρ e => ex_assign (e _ _ rfl)) rfl rfl ?_
  refine wl_val (v := .int .i64 ((parseOf s.data.toList).2)) (fun ρ e => ex_assign (e _ _ rfl)) rfl rfl ?_
  refine wl_nil ?_
  refine xw_next K2 ?_
  refine cw_seq (fun FK9 K9 => ?_)
  refine cw_region ?_
  refine wl_val (v := .slice A3 ((parseOf s.data.toList).1.length) c4) (fun ρ e => ex_move (e _ _ rfl)) rfl rfl ?_
  refine wl_val (v := .slice A3 ((parseOf s.data.toList).1.length) c4) (fun ρ e => ex_assign (e _ _ rfl)) rfl rfl ?_
  refine wl_nil ?_
  refine xw_next K9 ?_
  refine cw_ret ?_
  refine xw_ret (v := .slice A3 ((parseOf s.data.toList).1.length) c4) (fun T hT => res1 rfl T _ (hT 2 _ rfl)) ?_
  exact ⟨A3, c4, rfl, O7⟩
def shownOf (ts : List VN) (ev : Int) : ByteArray := if ev ≠ 0 ∨ chkV ts ≠ 0 then ⟨#[110, 111, 110, 101]⟩ else ⟨(printOf ts).toArray⟩
theorem shown_ {W : World} {D : Nat → Prop} {V : Value} {ts : List VN} (hN : NodesD D W V ts) (hD : ∀ k, D k → k < W.heap.size) (tab : Tab W) (ev : Int) : Calls Tryd.prog 21 #[V, .int .i64 ev] W fun e w' => e = .returned (.string (shownOf ts ev)) ∧ Below W.heap.size W w' := by
  obtain ⟨A, c, rfl⟩ := hN.slice
  have O0 : Own Z0 W W [] := Own.start W
  refine sx_enter (args := [.slice A ts.length c, .int .i64 ev]) Tryd.func21 rfl rfl (by simp) ?_
  refine cw_seq (fun FK1 K1 => ?_)
  refine cw_region ?_
  refine wl_val (v := .string (⟨#[]⟩)) (fun ρ e => ex_assign (e _ _ rfl)) rfl rfl ?_
  refine wl_nil ?_
  refine xw_next K1 ?_
  refine cw_seq (fun FK2 K2 => ?_)
  refine cw_region ?_
  refine wl_val (v := .slice A ts.length c) (fun ρ e => ex_move (e _ _ rfl)) rfl rfl ?_
  refine wl_call (args := [.slice A ts.length c]) in_39 rfl rfl rfl ?_
  refine (print_ (hN.move (fun k hk => (O0.old).block k (hD k hk))) (fun k hk => Nat.lt_of_lt_of_le (hD k hk) (O0.old).size) (tab.below (Nat.le_refl _) O0.old)).mono ?_
  rintro _ w3 ⟨rfl, hb4⟩
  have O5 : Own Z0 W w3 [] := O0.below hb4
  refine ⟨_, rfl, ?_⟩
  refine wl_val (v := .tuple #[.string (⟨(printOf ts).toArray⟩), .int .i64 (chkV ts)]) (fun ρ e => ex_move (e _ _ rfl)) rfl rfl ?_
  refine wl_val (v := .string (⟨(printOf ts).toArray⟩)) (fun ρ e => ex_extract (vs := #[.string (⟨(printOf ts).toArray⟩), .int .i64 (chkV ts)]) (e _ _ rfl) rfl) rfl rfl ?_
  refine wl_val (v := .int .i64 (chkV ts)) (fun ρ e => ex_extract (vs := #[.string (⟨(printOf ts).toArray⟩), .int .i64 (chkV ts)]) (e _ _ rfl) rfl) rfl rfl ?_
  refine wl_val (v := .string (⟨(printOf ts).toArray⟩)) (fun ρ e => ex_assign (e _ _ rfl)) rfl rfl ?_
  refine wl_val (v := .int .i64 (chkV ts)) (fun ρ e => ex_assign (e _ _ rfl)) rfl rfl ?_
  refine wl_nil ?_
  refine xw_next K2 ?_
  refine cw_seq (fun FK6 K6 => ?_)
  refine cw_seq (fun FK7 K7 => ?_)
  refine cw_region ?_
  refine wl_val (v := .int .i64 ev) (fun ρ e => ex_move (e _ _ rfl)) rfl rfl ?_
  by_cases c8 : ev ≠ 0
  · skip
    refine wl_val (v := .bool true) (fun ρ e => ex_cmp (u := ev) (v := 0) (e _ _ rfl) (e _ _ rfl) (neq1 (by omega))) rfl rfl ?_
    refine wl_val (v := .bool true) (fun ρ e => ex_move (e _ _ rfl)) rfl rfl ?_
    refine wl_skip rfl rfl ?_
    refine wl_skip rfl rfl ?_
    refine wl_val (v := .bool true) (fun ρ e => ex_pick1 (e _ _ rfl) (e _ _ rfl)) rfl rfl ?_
    refine wl_nil ?_
    refine xw_next K7 ?_
    refine cw_true rfl ?_
    refine cw_seq (fun FK9 K9 => ?_)
    refine cw_region ?_
    refine wl_val (v := .string (⟨#[110, 111, 110, 101]⟩)) (fun ρ e => ex_assign (e _ _ rfl)) rfl rfl ?_
    refine wl_nil ?_
    refine xw_next K9 ?_
    refine cw_ret ?_
    refine xw_past (by intro h; cases h) ?_
    refine xw_ret (v := .string (⟨#[110, 111, 110, 101]⟩)) (fun T hT => res1 rfl T _ (hT 4 _ rfl)) ?_
    have hs : shownOf ts ev = ⟨#[110, 111, 110, 101]⟩ := by unfold shownOf; rw [if_pos (by omega)]
    rw [hs]
    exact ⟨rfl, O5.old⟩
  · skip
    refine wl_val (v := .bool false) (fun ρ e => ex_cmp (u := ev) (v := 0) (e _ _ rfl) (e _ _ rfl) (neq0 (by omega))) rfl rfl ?_
    refine wl_val (v := .bool false) (fun ρ e => ex_move (e _ _ rfl)) rfl rfl ?_
    refine wl_val (v := .int .i64 (chkV ts)) (fun ρ e => ex_move (e _ _ rfl)) rfl rfl ?_
    by_cases c10 : (chkV ts) ≠ 0
    · skip
      refine wl_val (v := .bool true) (fun ρ e => ex_cmp (u := (chkV ts)) (v := 0) (e _ _ rfl) (e _ _ rfl) (neq1 (by omega))) rfl rfl ?_
      refine wl_val (v := .bool true) (fun ρ e => ex_pick0 (e _ _ rfl) (e _ _ rfl)) rfl rfl ?_
      refine wl_nil ?_
      refine xw_next K7 ?_
      refine cw_true rfl ?_
      refine cw_seq (fun FK11 K11 => ?_)
      refine cw_region ?_
      refine wl_val (v := .string (⟨#[110, 111, 110, 101]⟩)) (fun ρ e => ex_assign (e _ _ rfl)) rfl rfl ?_
      refine wl_nil ?_
      refine xw_next K11 ?_
      refine cw_ret ?_
      refine xw_past (by intro h; cases h) ?_
      refine xw_ret (v := .string (⟨#[110, 111, 110, 101]⟩)) (fun T hT => res1 rfl T _ (hT 4 _ rfl)) ?_
      have hs : shownOf ts ev = ⟨#[110, 111, 110, 101]⟩ := by unfold shownOf; rw [if_pos (by omega)]
      rw [hs]
      exact ⟨rfl, O5.old⟩
    · skip
      refine wl_val (v := .bool false) (fun ρ e => ex_cmp (u := (chkV ts)) (v := 0) (e _ _ rfl) (e _ _ rfl) (neq0 (by omega))) rfl rfl ?_
      refine wl_val (v := .bool false) (fun ρ e => ex_pick0 (e _ _ rfl) (e _ _ rfl)) rfl rfl ?_
      refine wl_nil ?_
      refine xw_next K7 ?_
      refine cw_false rfl ?_
      refine cw_skip ?_
      refine xw_next K6 ?_
      refine cw_seq (fun FK12 K12 => ?_)
      refine cw_region ?_
      refine wl_val (v := .string (⟨(printOf ts).toArray⟩)) (fun ρ e => ex_move (e _ _ rfl)) rfl rfl ?_
      refine wl_val (v := .string (⟨(printOf ts).toArray⟩)) (fun ρ e => ex_assign (e _ _ rfl)) rfl rfl ?_
      refine wl_nil ?_
      refine xw_next K12 ?_
      refine cw_ret ?_
      refine xw_ret (v := .string (⟨(printOf ts).toArray⟩)) (fun T hT => res1 rfl T _ (hT 4 _ rfl)) ?_
      have hs : shownOf ts ev = ⟨(printOf ts).toArray⟩ := by unfold shownOf; rw [if_neg (by omega)]
      rw [hs]
      exact ⟨rfl, O5.old⟩
def T5 : List VN := [⟨-1, -1, 3⟩, ⟨-1, -1, 1⟩, ⟨0, 1, 0⟩, ⟨-1, -1, 2⟩, ⟨2, 3, 0⟩]
def T6 : List VN := [⟨-1, -1, 3⟩, ⟨-1, -1, 1⟩, ⟨-1, -1, 2⟩, ⟨1, 2, 0⟩, ⟨0, 3, 0⟩]
def T7 : List VN := [⟨-1, -1, 1⟩, ⟨-1, -1, 3⟩, ⟨0, 1, 0⟩, ⟨-1, -1, 2⟩, ⟨2, 3, 0⟩]
theorem w5 : parseOf (⟨#[40, 40, 51, 32, 49, 41, 32, 50, 41]⟩ : ByteArray).data.toList = (T5, 0) := by kernel_rfl
theorem w6 : movOf T5 1 4 = (T6, 0) := by kernel_rfl
theorem w7 : movOf T5 3 2 = (T7, 0) := by kernel_rfl
theorem w8 : makeOf 1 [3, 1, 2] = (T6, 0) := by kernel_rfl
theorem w9 : meetOf T5 0 3 = 4 := by kernel_rfl
theorem s6 : shownOf T6 0 = ⟨#[40, 51, 32, 40, 49, 32, 50, 41, 41]⟩ := by kernel_rfl
theorem s7 : shownOf T7 0 = ⟨#[40, 40, 49, 32, 51, 41, 32, 50, 41]⟩ := by kernel_rfl
theorem works_ {W : World} (tab : Tab W) : Calls Tryd.prog 14 #[] W fun e w' => e = .returned (.bool true) ∧ Below W.heap.size W w' := by
  have O0 : Own Z0 W W [] := Own.start W
  refine sx_enter (args := []) Tryd.func14 rfl rfl (by simp) ?_
  refine cw_seq (fun FK1 K1 => ?_)
  refine cw_region ?_
  refine wl_val (v := .bool false) (fun ρ e => ex_assign (e _ _ rfl)) rfl rfl ?_
  refine wl_nil ?_
  refine xw_next K1 ?_
  refine cw_seq (fun FK2 K2 => ?_)
  refine cw_region ?_
  refine wl_call (args := [.string (⟨#[40, 40, 51, 32, 49, 41, 32, 50, 41]⟩)]) in_47 rfl rfl rfl ?_
  have hc8 := read_ ⟨#[40, 40, 51, 32, 49, 41, 32, 50, 41]⟩ (tab.below (Nat.le_refl _) O0.old)
  rw [w5] at hc8
  refine hc8.mono ?_
  rintro _ w5 ⟨A3, c4, rfl, h6⟩
  have O7 := O0.join1 h6 trivial
  obtain ⟨g9, hg9⟩ := rowaddr (O7.row 0 rfl) (by decide)
  subst hg9
  refine ⟨_, rfl, ?_⟩
  refine wl_val (v := .slice (some ⟨g9, 0, none⟩) 5 c4) (fun ρ e => ex_assign (e _ _ rfl)) rfl rfl ?_
  refine wl_nil ?_
  refine xw_next K2 ?_
  refine cw_seq (fun FK10 K10 => ?_)
  refine cw_region ?_
  refine wl_val (v := .slice (some ⟨g9, 0, none⟩) 5 c4) (fun ρ e => ex_move (e _ _ rfl)) rfl rfl ?_
  refine wl_val (v := .int .i64 (5 : Int)) (fun ρ e => ex_len el23 (e _ _ rfl)) rfl rfl ?_
  refine wl_val (v := .bool true) (fun ρ e => ex_cmp (u := (5 : Int)) (v := 5) (e _ _ rfl) (e _ _ rfl) (eql1 (by omega))) rfl rfl ?_
  refine wl_val (v := .bool true) (fun ρ e => ex_move (e _ _ rfl)) rfl rfl ?_
  refine wl_val (v := .slice (some ⟨g9, 0, none⟩) 5 c4) (fun ρ e => ex_move (e _ _ rfl)) rfl rfl ?_
  refine wl_val (v := .pointer (some ⟨g9, 6, none⟩)) (fun ρ e => ex_idx (q := 6) (i := 2) el23 (e _ _ rfl) (e _ _ rfl) (by omega) (by omega)) rfl rfl ?_
  refine wl_val (v := .agg #[.int .i64 0, .int .i64 1, .int .i64 0]) (fun ρ e => ex_loadN (vs := [.int .i64 0, .int .i64 1, .int .i64 0]) ty38 (e _ _ rfl) rfl (cells3 (rowcell (O7.row 0 rfl) (show (ncells T5)[6]? = _ from rfl)) (rowcell (O7.row 0 rfl) (show (ncells T5)[7]? = _ from rfl)) (rowcell (O7.row 0 rfl) (show (ncells T5)[8]? = _ from rfl)))) rfl rfl ?_
  refine wl_val (v := .agg #[.int .i64 0, .int .i64 1, .int .i64 0]) (fun ρ e => ex_build (cells := #[.int .i64 0, .int .i64 1, .int .i64 0]) st38 (e.parts rfl) rfl) rfl rfl ?_
  refine wl_val (v := .bool true) (fun ρ e => ex_eqN (a := (VN.mk 0 1 0)) (b := (VN.mk 0 1 0)) (e _ _ rfl) (e _ _ rfl) (decide_eq_true rfl)) rfl rfl ?_
  refine wl_val (v := .bool true) (fun ρ e => ex_pick1 (e _ _ rfl) (e _ _ rfl)) rfl rfl ?_
  refine wl_val (v := .bool true) (fun ρ e => ex_move (e _ _ rfl)) rfl rfl ?_
  refine wl_val (v := .slice (some ⟨g9, 0, none⟩) 5 c4) (fun ρ e => ex_move (e _ _ rfl)) rfl rfl ?_
  refine wl_call (args := [.slice (some ⟨g9, 0, none⟩) 5 c4, .int .i64 4]) in_32 rfl rfl rfl ?_
  have hc16 := rotr_ (NodesD.of_row (O7.row 0 rfl)) (fun k hk => (World.ownsRow.lt (O7.row 0 rfl) k hk).2) 4
  rw [w6] at hc16
  refine hc16.mono ?_
  rintro _ w13 ⟨A11, c12, rfl, h14⟩
  have O15 := O7.join1 h14 trivial
  refine ⟨_, rfl, ?_⟩
  refine wl_val (v := .slice A11 T6.length c12) (fun ρ e => ex_extract (vs := #[.slice A11 T6.length c12, .int .i64 0]) (e _ _ rfl) rfl) rfl rfl ?_
  refine wl_val (v := .int .i64 0) (fun ρ e => ex_extract (vs := #[.slice A11 T6.length c12, .int .i64 0]) (e _ _ rfl) rfl) rfl rfl ?_
  refine wl_call (args := [.slice A11 T6.length c12, .int .i64 0]) in_21 rfl rfl rfl ?_
  have hc17 := shown_ (NodesD.of_row (O15.row 0 rfl)) (fun k hk => (World.ownsRow.lt (O15.row 0 rfl) k hk).2) (tab.below (Nat.le_refl _) O15.old) 0
  rw [s6] at hc17
  refine hc17.mono ?_
  rintro _ w18 ⟨rfl, hb19⟩
  have O20 : Own Z0 W w18 [.row (.slice A11 T6.length c12) 38 3 T6.length (ncells T6), .row (.slice (some ⟨g9, 0, none⟩) 5 c4) 38 3 5 (ncells T5)] := O15.below hb19
  refine ⟨_, rfl, ?_⟩
  refine wl_val (v := .bool true) (fun ρ e => ex_eqS (a := ⟨#[40, 51, 32, 40, 49, 32, 50, 41, 41]⟩) (b := ⟨#[40, 51, 32, 40, 49, 32, 50, 41, 41]⟩) (e _ _ rfl) (e _ _ rfl) (by rw [decide_eq_true rfl])) rfl rfl ?_
  refine wl_val (v := .bool true) (fun ρ e => ex_pick1 (e _ _ rfl) (e _ _ rfl)) rfl rfl ?_
  refine wl_val (v := .bool true) (fun ρ e => ex_move (e _ _ rfl)) rfl rfl ?_
  refine wl_val (v := .slice (some ⟨g9, 0, none⟩) 5 c4) (fun ρ e => ex_move (e _ _ rfl)) rfl rfl ?_
  refine wl_call (args := [.slice (some ⟨g9, 0, none⟩) 5 c4, .int .i64 2]) in_34 rfl rfl rfl ?_
  have hc26 := swap_ (NodesD.of_row (O20.row 1 rfl)) (fun k hk => (World.ownsRow.lt (O20.row 1 rfl) k hk).2) 2
  rw [w7] at hc26
  refine hc26.mono ?_
  rintro _ w23 ⟨A21, c22, rfl, h24⟩
  have O25 := O20.join1 h24 trivial
  refine ⟨_, rfl, ?_⟩
  refine wl_val (v := .slice A21 T7.length c22) (fun ρ e => ex_extract (vs := #[.slice A21 T7.length c22, .int .i64 0]) (e _ _ rfl) rfl) rfl rfl ?_
  refine wl_val (v := .int .i64 0) (fun ρ e => ex_extract (vs := #[.slice A21 T7.length c22, .int .i64 0]) (e _ _ rfl) rfl) rfl rfl ?_
  refine wl_call (args := [.slice A21 T7.length c22, .int .i64 0]) in_21 rfl rfl rfl ?_
  have hc27 := shown_ (NodesD.of_row (O25.row 0 rfl)) (fun k hk => (World.ownsRow.lt (O25.row 0 rfl) k hk).2) (tab.below (Nat.le_refl _) O25.old) 0
  rw [s7] at hc27
  refine hc27.mono ?_
  rintro _ w28 ⟨rfl, hb29⟩
  have O30 : Own Z0 W w28 [.row (.slice A21 T7.length c22) 38 3 T7.length (ncells T7), .row (.slice A11 T6.length c12) 38 3 T6.length (ncells T6), .row (.slice (some ⟨g9, 0, none⟩) 5 c4) 38 3 5 (ncells T5)] := O25.below hb29
  refine ⟨_, rfl, ?_⟩
  refine wl_val (v := .bool true) (fun ρ e => ex_eqS (a := ⟨#[40, 40, 49, 32, 51, 41, 32, 50, 41]⟩) (b := ⟨#[40, 40, 49, 32, 51, 41, 32, 50, 41]⟩) (e _ _ rfl) (e _ _ rfl) (by rw [decide_eq_true rfl])) rfl rfl ?_
  refine wl_val (v := .bool true) (fun ρ e => ex_pick1 (e _ _ rfl) (e _ _ rfl)) rfl rfl ?_
  refine wl_val (v := .bool true) (fun ρ e => ex_move (e _ _ rfl)) rfl rfl ?_
  obtain ⟨g31, w32, r33, O34, hg35, hs36⟩ := own_slice O30 el36 ze3 3 [(0, .int .i64 3), (1, .int .i64 1), (2, .int .i64 2)] (cs := #[.int .i64 3, .int .i64 1, .int .i64 2]) (by decide) (by kernel_rfl)
  refine wl_val (v := .slice (some ⟨g31, 0, none⟩) 3 3) (fun ρ e => r33 ρ _ _ _ _ _ _ (e.parts rfl)) rfl rfl ?_
  refine wl_call (args := [.slice (some ⟨g31, 0, none⟩) 3 3]) in_24 rfl rfl rfl ?_
  have hc42 := right_ (IntsD.of_blk (n := 3) (l := [3, 1, 2]) (O34.blk 0 rfl) rfl (by unfold maxLen; omega)) (fun k hk => hk ▸ (O34.blk 0 rfl).lt) (by decide)
  rw [w8] at hc42
  refine hc42.mono ?_
  rintro _ w39 ⟨A37, c38, rfl, h40⟩
  have O41 := O34.join1 h40 trivial
  refine ⟨_, rfl, ?_⟩
  refine wl_val (v := .slice A37 T6.length c38) (fun ρ e => ex_extract (vs := #[.slice A37 T6.length c38, .int .i64 0]) (e _ _ rfl) rfl) rfl rfl ?_
  refine wl_val (v := .int .i64 0) (fun ρ e => ex_extract (vs := #[.slice A37 T6.length c38, .int .i64 0]) (e _ _ rfl) rfl) rfl rfl ?_
  refine wl_call (args := [.slice A37 T6.length c38, .int .i64 0]) in_21 rfl rfl rfl ?_
  have hc43 := shown_ (NodesD.of_row (O41.row 0 rfl)) (fun k hk => (World.ownsRow.lt (O41.row 0 rfl) k hk).2) (tab.below (Nat.le_refl _) O41.old) 0
  rw [s6] at hc43
  refine hc43.mono ?_
  rintro _ w44 ⟨rfl, hb45⟩
  have O46 : Own Z0 W w44 [.row (.slice A37 T6.length c38) 38 3 T6.length (ncells T6), .blk g31 3 #[.int .i64 3, .int .i64 1, .int .i64 2], .row (.slice A21 T7.length c22) 38 3 T7.length (ncells T7), .row (.slice A11 T6.length c12) 38 3 T6.length (ncells T6), .row (.slice (some ⟨g9, 0, none⟩) 5 c4) 38 3 5 (ncells T5)] := O41.below hb45
  refine ⟨_, rfl, ?_⟩
  refine wl_val (v := .bool true) (fun ρ e => ex_eqS (a := ⟨#[40, 51, 32, 40, 49, 32, 50, 41, 41]⟩) (b := ⟨#[40, 51, 32, 40, 49, 32, 50, 41, 41]⟩) (e _ _ rfl) (e _ _ rfl) (by rw [decide_eq_true rfl])) rfl rfl ?_
  refine wl_val (v := .bool true) (fun ρ e => ex_pick1 (e _ _ rfl) (e _ _ rfl)) rfl rfl ?_
  refine wl_val (v := .bool true) (fun ρ e => ex_move (e _ _ rfl)) rfl rfl ?_
  refine wl_val (v := .slice (some ⟨g9, 0, none⟩) 5 c4) (fun ρ e => ex_move (e _ _ rfl)) rfl rfl ?_
  refine wl_call (args := [.slice (some ⟨g9, 0, none⟩) 5 c4, .int .i64 0, .int .i64 3]) in_15 rfl rfl rfl ?_
  have hc47 := meet_ (NodesD.of_row (O46.row 4 rfl)) (fun k hk => (World.ownsRow.lt (O46.row 4 rfl) k hk).2) 0 3
  rw [w9] at hc47
  refine hc47.mono ?_
  rintro _ w48 ⟨rfl, hb49⟩
  have O50 : Own Z0 W w48 [.row (.slice A37 T6.length c38) 38 3 T6.length (ncells T6), .blk g31 3 #[.int .i64 3, .int .i64 1, .int .i64 2], .row (.slice A21 T7.length c22) 38 3 T7.length (ncells T7), .row (.slice A11 T6.length c12) 38 3 T6.length (ncells T6), .row (.slice (some ⟨g9, 0, none⟩) 5 c4) 38 3 5 (ncells T5)] := O46.below hb49
  refine ⟨_, rfl, ?_⟩
  refine wl_val (v := .bool true) (fun ρ e => ex_cmp (u := 4) (v := 4) (e _ _ rfl) (e _ _ rfl) (eql1 (by omega))) rfl rfl ?_
  refine wl_val (v := .bool true) (fun ρ e => ex_pick1 (e _ _ rfl) (e _ _ rfl)) rfl rfl ?_
  refine wl_val (v := .bool true) (fun ρ e => ex_assign (e _ _ rfl)) rfl rfl ?_
  refine wl_nil ?_
  refine xw_next K10 ?_
  refine cw_ret ?_
  refine xw_ret (v := .bool true) (fun T hT => res1 rfl T _ (hT 0 _ rfl)) ?_
  exact ⟨rfl, O50.old⟩

end Go.Proofs.YtpeoodkepjhhiaaDoor
namespace Go.Proofs.YtpeoodkepjhhiaaDoor
open Go.ChangeShapes Go.WideShapes Go.ChangeAt Go.RowKit

end Go.Proofs.YtpeoodkepjhhiaaDoor
namespace Go.Proofs.YtpeoodkepjhhiaaDoor
open Go Go.RowKit Go.ChangeShapes Go.WideShapes Go.Deep Go.Joins

theorem laidOut : laidOutB Tryd.prog = true := by kernel_rfl

section
variable {H : Type} {enc : TypeId × Value → H} {W : World} {held : Bool}

end
end Go.Proofs.YtpeoodkepjhhiaaDoor
namespace Go.Proofs.YtpeoodkepjhhiaaDoor
open Go Go.ChangeShapes Go.WideShapes Go.ChangeAt Go.RowKit

theorem carryAll {H : Type} {enc : TypeId × Value → H} {W W' : World} (hb : Below W.heap.size W W') : ∀ {ts : List TypeId} {vs : List Value} {ds : List (DataW H)} {ps : List MemPlace},
    DataW.TrodAll enc Tryd.prog W 0 (fun _ => true) true ts vs ds ps → (∀ x ∈ ps, x.block < W.heap.size) → ts.all (fun t => Tryd.prog.readableRec t && decide (t < Tryd.prog.types.size)) = true →
    DataW.TrodAll enc Tryd.prog W' 0 (fun b => decide (b < W.heap.size)) true ts vs ds ps := by
  intro ts
  induction ts with
  | nil =>
    intro vs ds ps h _ _
    obtain ⟨rfl, rfl, rfl⟩ := trodAll_nil h
    exact trodAll_mk0
  | cons t ts ih =>
    intro vs ds ps h hlt hts
    obtain ⟨v0, vs0, d0, ds0, p0, q0, rfl, rfl, rfl, h0, r0⟩ := trodAll_cons h
    simp only [List.all_cons, Bool.and_eq_true, decide_eq_true_eq] at hts
    exact trodAll_cons_mk (Below.trod laidOut hts.1.1 hts.1.2 h0 hb (fun x hx => hlt x (List.mem_append_left _ hx))) (ih r0 (fun x hx => hlt x (List.mem_append_right _ hx)) hts.2)

theorem law_post2 {H : Type} {enc : TypeId × Value → H} {f : Func} {s : ChangeSpec} {W W' : World} {args : Array Value} {v : Value} {ds : List (DataW H)} {p : List MemPlace} (hvars : s.vars = [])
    (hW : DataW.Whole enc Tryd.prog f.params.toList s.vars false W args.toList ds [] (p ++ []))
    (hA : DataW.TrodAll enc Tryd.prog W 0 (fun _ => true) true f.params.toList args.toList ds p)
    (hres : DataW.TrodAll enc Tryd.prog W' W.heap.size (fun _ => false) false f.resultTypes.toList (v.resultList f.resultTypes.size) (s.fn H (ds ++ [])).results [])
    (hfa : (s.fn H (ds ++ [])).args = ds) (hfv : (s.fn H (ds ++ [])).vars = []) (hts : f.params.toList.all (fun t => Tryd.prog.readableRec t && decide (t < Tryd.prog.types.size)) = true) (hb : Below W.heap.size W W') : s.post enc Tryd.prog f false true false false W args v W' := by
  have hlt : ∀ p' ∈ p ++ [], p'.block < W.heap.size := fun p' hp => hW.lt p' hp
  have hlt' : ∀ x ∈ p, x.block < W.heap.size := fun x hx => hlt x (by simpa using hx)
  have h2 := carryAll hb hA hlt' hts
  refine ⟨ds, [], p ++ [], [], p, [], hW, hres, ?_, ?_, World.keptBut_mono (fun p' hp => ⟨hp, .inr (.inl (by simpa using hp))⟩) (hb.frame (· ∈ p ++ [])), fun h => by cases h⟩
  · rw [hfa]; exact h2
  · rw [hfv, hvars]; rfl
end Go.Proofs.YtpeoodkepjhhiaaDoor
namespace Go.Proofs.YtpeoodkepjhhiaaDoor
open Go Go.ChangeShapes Go.WideShapes Go.ChangeAt Go.RowKit Go.Deep Go.Joins
section
variable {H : Type} {enc : TypeId × Value → H} {W : World} {held : Bool}
end
def laidL : List (String × DataW Unit) := Rows.vtreeMeetsRow.laid
theorem tab_laid {W : World} (h : laidMetH Tryd.prog laidL W) : Tab W := by
  rw [MakeChecks.laidMetH_plain _ _ _ (by kernel_rfl)] at h
  obtain ⟨g, t, cs, fuel, p, hg, ht, hv, hd⟩ := Lib.laidMet.reads (n := tabN) (d := Rows.laid_internal_strconv_uint64pow10) h (List.Mem.tail _ (List.Mem.tail _ (List.Mem.head _)))
  have h0 : Tryd.prog.globalNamed tabN = some 0 := by kernel_rfl
  obtain rfl := Option.some.inj (h0.symm.trans hg)
  have h1 : (Tryd.prog.globals[0]?).map (·.type) = some 108 := by kernel_rfl
  obtain rfl := Option.some.inj (h1.symm.trans ht)
  have hc := Lib.cells_of_tab (k := .u64) (zs := Lib.pow10Tab) Tryd.underlying108 Tryd.underlying55 (by kernel_rfl) (by kernel_rfl) hd
  unfold Tab Lib.TabIs
  rw [hv, ← hc]
end Go.Proofs.YtpeoodkepjhhiaaDoor
namespace Go.Proofs.YtpeoodkepjhhiaaDoor

/-- A tree whose leaves are distinct variables. -/
def GoodT (T : Tr) : Prop := T.leaves.Nodup ∧ ∀ v ∈ T.leaves, 1 ≤ v ∧ v ≤ 128
theorem Tr.size_leaves : ∀ T : Tr, T.size + 1 = 2 * T.leaves.length
  | .leaf _ => rfl
  | .node a b => by
    have h1 := a.size_leaves
    have h2 := b.size_leaves
    simp only [Tr.size, Tr.leaves, List.length_append]
    omega
theorem GoodT.few {T : Tr} (h : GoodT T) : T.leaves.length ≤ 128 := by
  have h3 : (T.leaves.map fun v => v - 1).Nodup := by
    rw [List.nodup_iff_pairwise_ne, List.pairwise_map]
    exact (List.nodup_iff_pairwise_ne.1 h.1).imp (fun h e => h (by omega))
  have := range_len (n := 128) h3 (fun x hx => by
    obtain ⟨v, hv, rfl⟩ := List.mem_map.1 hx
    have := h.2 v hv
    omega)
  simpa using this
theorem GoodT.small {T : Tr} (h : GoodT T) : T.size ≤ 255 := by
  have h1 := T.size_leaves
  have h2 := h.few
  omega
theorem GoodT.left {a b : Tr} (h : GoodT (.node a b)) : GoodT a := ⟨(List.nodup_append.1 h.1).1, fun v hv => h.2 v (List.mem_append_left _ hv)⟩
theorem GoodT.right {a b : Tr} (h : GoodT (.node a b)) : GoodT b := ⟨(List.nodup_append.1 h.1).2.1, fun v hv => h.2 v (List.mem_append_right _ hv)⟩
/-- The nodes of T lie in ts from n on. -/
def Lies (ts : List VN) (n : Nat) (T : Tr) : Prop := ∀ (i : Nat) (x : VN), (post T n)[i]? = some x → ts[n + i]? = some x
section
variable {ts : List VN} {n : Nat} {a b : Tr} {v : Int}
theorem Lies.all (T : Tr) : Lies (post T 0) 0 T := fun i x h => by rw [Nat.zero_add]; exact h
theorem Lies.one (h : Lies ts n (.leaf v)) : ts[n]? = some ⟨-1, -1, v⟩ := h 0 _ rfl
theorem Lies.left (h : Lies ts n (.node a b)) : Lies ts n a := fun i x hi => by
  refine h i x ?_
  have hl := (List.getElem?_eq_some_iff.1 hi).1
  simp only [post]
  rw [List.getElem?_append_left hl]
  exact hi
theorem Lies.right (h : Lies ts n (.node a b)) : Lies ts (n + a.size) b := fun i x hi => by
  have hl := (List.getElem?_eq_some_iff.1 hi).1
  have := h (a.size + i) x (by
    simp only [post]
    rw [List.getElem?_append_right (by rw [post_len]; omega), post_len, List.getElem?_append_left (by omega), show a.size + i - a.size = i by omega]
    exact hi)
  rw [Nat.add_assoc]
  exact this
theorem Lies.root (h : Lies ts n (.node a b)) : ts[n + a.size + b.size]? = some ⟨((n + a.size - 1 : Nat) : Int), ((n + a.size + b.size - 1 : Nat) : Int), 0⟩ := by
  have := h (a.size + b.size) ⟨((n + a.size - 1 : Nat) : Int), ((n + a.size + b.size - 1 : Nat) : Int), 0⟩ (by
    simp only [post]
    rw [List.getElem?_append_right (by rw [post_len]; omega), post_len, List.getElem?_append_right (by rw [post_len]; omega), post_len, show a.size + b.size - a.size - b.size = 0 by omega]
    rfl)
  rw [show n + (a.size + b.size) = n + a.size + b.size by omega] at this
  exact this
theorem Lies.len {T : Tr} (h : Lies ts n T) : n + T.size ≤ ts.length := by
  have hp := T.size_pos
  have hl : T.size - 1 < (post T n).length := by rw [post_len]; omega
  have := h (T.size - 1) _ (List.getElem?_eq_getElem hl)
  have := (List.getElem?_eq_some_iff.1 this).1
  omega
end
/-- Every node of a postorder: a leaf, or an inner node with its two children's numbers. -/
theorem post_kind : ∀ (T : Tr) (n i : Nat) (x : VN), (∀ v ∈ T.leaves, 1 ≤ v ∧ v ≤ 128) → (post T n)[i]? = some x → nodeB (n + i) x = true
  | .leaf v, n, i, x, h, hx => by
    obtain ⟨h1, h2⟩ := h v (by simp [Tr.leaves])
    have hi : i = 0 := by
      have := (List.getElem?_eq_some_iff.1 hx).1
      simpa [post] using this
    subst hi
    simp [post] at hx
    subst hx
    simp [nodeB, lf_leaf h1 h2]
  | .node a b, n, i, x, h, hx => by
    have ha := a.size_pos
    have hb := b.size_pos
    simp only [post] at hx
    by_cases h1 : i < a.size
    · rw [List.getElem?_append_left (by rw [post_len]; exact h1)] at hx
      exact post_kind a n i x (fun v hv => h v (List.mem_append_left _ hv)) hx
    · rw [List.getElem?_append_right (by rw [post_len]; omega), post_len] at hx
      by_cases h2 : i - a.size < b.size
      · rw [List.getElem?_append_left (by rw [post_len]; exact h2)] at hx
        have := post_kind b (n + a.size) (i - a.size) x (fun v hv => h v (List.mem_append_right _ hv)) hx
        rwa [show n + a.size + (i - a.size) = n + i by omega] at this
      · rw [List.getElem?_append_right (by rw [post_len]; omega), post_len] at hx
        have hx0 := hx
        have h3 : i - a.size - b.size = 0 := by
          have := (List.getElem?_eq_some_iff.1 hx).1
          simpa using this
        rw [h3] at hx
        simp at hx
        subst hx
        simp only [nodeB, Bool.or_eq_true, Bool.and_eq_true, decide_eq_true_eq]
        right
        have h4 := (List.getElem?_eq_some_iff.1 hx0).1
        simp only [List.length_cons, List.length_nil] at h4
        refine ⟨⟨⟨⟨trivial, ?_⟩, ?_⟩, ?_⟩, ?_⟩ <;> omega
theorem post_vars : ∀ (T : Tr) (n : Nat), (∀ v ∈ T.leaves, 1 ≤ v ∧ v ≤ 128) → varsL (post T n) = T.leaves
  | .leaf v, n, h => by
    obtain ⟨h1, h2⟩ := h v (by simp [Tr.leaves])
    simp [post, varsL, varOf, lf_leaf h1 h2, Tr.leaves]
  | .node a b, n, h => by
    have h1 := post_vars a n (fun v hv => h v (List.mem_append_left _ hv))
    have h2 := post_vars b (n + a.size) (fun v hv => h v (List.mem_append_right _ hv))
    unfold varsL at h1 h2 ⊢
    simp only [post, List.flatMap_append, h1, h2, Tr.leaves]
    simp [varOf, lf_inner]
theorem post_kids : ∀ (T : Tr) (n : Nat), (∀ v ∈ T.leaves, 1 ≤ v ∧ v ≤ 128) → (kidsL (post T n)).Perm ((List.range' n (T.size - 1)).map fun k : Nat => (k : Int))
  | .leaf v, n, h => by
    obtain ⟨h1, h2⟩ := h v (by simp [Tr.leaves])
    simp [post, kidsL, kidsOf, lf_leaf h1 h2, Tr.size]
  | .node a b, n, h => by
    have h1 := post_kids a n (fun v hv => h v (List.mem_append_left _ hv))
    have h2 := post_kids b (n + a.size) (fun v hv => h v (List.mem_append_right _ hv))
    have ha := a.size_pos
    have hb := b.size_pos
    unfold kidsL at h1 h2 ⊢
    simp only [post, List.flatMap_append, Tr.size]
    have e : (List.range' n (a.size + b.size + 1 - 1)) = (List.range' n (a.size - 1) ++ [n + a.size - 1]) ++ (List.range' (n + a.size) (b.size - 1) ++ [n + a.size + b.size - 1]) := by
      have q1 : List.range' n (a.size - 1) ++ [n + a.size - 1] = List.range' n a.size := by
        obtain ⟨m, hm⟩ : ∃ m, a.size = m + 1 := ⟨a.size - 1, by omega⟩
        rw [hm, List.range'_concat]
        simp
      have q2 : List.range' (n + a.size) (b.size - 1) ++ [n + a.size + b.size - 1] = List.range' (n + a.size) b.size := by
        obtain ⟨m, hm⟩ : ∃ m, b.size = m + 1 := ⟨b.size - 1, by omega⟩
        rw [hm, List.range'_concat]
        simp
      rw [q1, q2, List.range'_append_1]
      simp
    rw [e]
    simp only [List.map_append, List.map_cons, List.map_nil]
    have k3 : List.flatMap kidsOf [(⟨((n + a.size - 1 : Nat) : Int), ((n + a.size + b.size - 1 : Nat) : Int), 0⟩ : VN)] = [((n + a.size - 1 : Nat) : Int), ((n + a.size + b.size - 1 : Nat) : Int)] := by simp [kidsOf, lf_inner]
    rw [k3]
    refine (h1.append (h2.append_right _)).trans ?_
    have key : ∀ (P Q : List Int) (u w : Int), (P ++ (Q ++ [u, w])).Perm ((P ++ [u]) ++ (Q ++ [w])) := fun P Q u w => by
      rw [List.append_assoc]
      refine List.Perm.append_left P ?_
      have : (Q ++ [u, w]).Perm ([u] ++ Q ++ [w]) := by
        rw [show Q ++ [u, w] = Q ++ [u] ++ [w] by simp]
        exact List.Perm.append_right [w] List.perm_append_comm
      rw [← List.append_assoc]
      exact this
    exact key _ _ _ _
theorem post_ok {T : Tr} (h : GoodT T) : okT (post T 0) = true := by
  have hs := h.small
  have hp := T.size_pos
  have hk := post_kids T 0 h.2
  refine okT_parts.2 ⟨by rw [post_len]; exact hp, by rw [post_len]; exact hs, ?_, ?_⟩
  · unfold preB
    simp only [Bool.and_eq_true, decide_eq_true_eq]
    refine ⟨⟨(nodesB_iff _).2 fun i x hx => ?_, by rw [post_vars T 0 h.2]; exact h.1⟩, hk.nodup_iff.2 ?_⟩
    · have := post_kind T 0 i x h.2 hx
      rwa [Nat.zero_add] at this
    · rw [← List.range_eq_range']
      exact nodup_castrange _
  · unfold coverB
    simp only [List.all_eq_true, decide_eq_true_eq, List.mem_range, post_len]
    intro k hk2
    refine hk.mem_iff.2 (List.mem_map.2 ⟨k, ?_, rfl⟩)
    rw [List.mem_range'_1]
    omega
theorem Lies.at_ {ts : List VN} : ∀ (T : Tr) (n : Nat), (∀ v ∈ T.leaves, 1 ≤ v ∧ v ≤ 128) → Lies ts n T → ∃ vs, At ts idF (n + T.size - 1) T vs
  | .leaf v, n, h, hs => by
    obtain ⟨h1, h2⟩ := h v (by simp [Tr.leaves])
    exact ⟨_, .leaf (by simpa [Tr.size] using hs.one) h1 h2⟩
  | .node a b, n, h, hs => by
    obtain ⟨va, hA⟩ := Lies.at_ a n (fun v hv => h v (List.mem_append_left _ hv)) hs.left
    obtain ⟨vb, hB⟩ := Lies.at_ b (n + a.size) (fun v hv => h v (List.mem_append_right _ hv)) hs.right
    have hr := hs.root
    refine ⟨_, At.node (i := n + (Tr.node a b).size - 1) ?_ rfl hA hB⟩
    rw [show n + (Tr.node a b).size - 1 = n + a.size + b.size by simp only [Tr.size]; omega]
    exact hr
/-! ### By position -/
def turn (kind : Nat) (a b : Tr) : Option Tr :=
  if kind = 1 then (match a with
    | .node p q => some (.node p (.node q b))
    | .leaf _ => none)
  else if kind = 2 then (match b with
    | .node p q => some (.node (.node a p) q)
    | .leaf _ => none)
  else some (.node b a)
/-- The tree with node i turned; its first node has the number n. -/
def tAt (kind : Nat) : Tr → Nat → Nat → Option Tr
  | .leaf _, _, _ => none
  | .node a b, n, i => if i = n + a.size + b.size then turn kind a b else if i < n + a.size then (tAt kind a n i).map (fun c => .node c b) else (tAt kind b (n + a.size) i).map (fun c => .node a c)
/-- The opposite turn. -/
def opp (kind : Nat) : Nat := if kind = 1 then 2 else if kind = 2 then 1 else kind
/-! ### What the program makes of such a list -/
end Go.Proofs.YtpeoodkepjhhiaaDoor
namespace Go.Proofs.YtpeoodkepjhhiaaDoor
open Go Go.RowKit
/-- A slice of bytes, in the blocks of D. -/
def BytesD (D : Nat → Prop) (w : World) (v : Value) (bs : List Nat) : Prop :=
  ∃ A c, v = .slice A bs.length c ∧ bs.length ≤ c ∧ c ≤ maxLen ∧ (0 < bs.length → ∃ b o, D b ∧ A = some ⟨b, o, none⟩ ∧ ∀ (i x : Nat), bs[i]? = some x → w.cell? ⟨b, o + i, none⟩ = some (.int .u8 (x : Int)) ∧ x ≤ 255)
section
variable {D D' : Nat → Prop} {w w' : World} {v : Value} {bs : List Nat}
theorem BytesD.move (h : BytesD D w v bs) (hk : ∀ k, D k → w'.heap[k]? = w.heap[k]?) : BytesD D w' v bs := by
  obtain ⟨A, c, h1, h2, h3, h4⟩ := h
  refine ⟨A, c, h1, h2, h3, fun hp => ?_⟩
  obtain ⟨b, o, hb, hA, hc⟩ := h4 hp
  exact ⟨b, o, hb, hA, fun i x hx => ⟨(cell_move (hk b hb)).trans (hc i x hx).1, (hc i x hx).2⟩⟩
theorem BytesD.slice (h : BytesD D w v bs) : ∃ A c, v = .slice A bs.length c := by
  obtain ⟨A, c', hv, _⟩ := h
  exact ⟨A, c', hv⟩
theorem BytesD.form (h : BytesD D w v bs) (hp : 0 < bs.length) : ∃ b o c, v = .slice (some ⟨b, o, none⟩) bs.length c := by
  obtain ⟨A, c, h1, h2, h3, h4⟩ := h
  obtain ⟨b, o, hb, hA, hc⟩ := h4 hp
  exact ⟨b, o, c, by rw [h1, hA]⟩
theorem BytesD.cell {b o n c : Nat} (h : BytesD D w (.slice (some ⟨b, o, none⟩) n c) bs) {i x : Nat} (hx : bs[i]? = some x) : w.cell? ⟨b, o + i, none⟩ = some (.int .u8 (x : Int)) ∧ x ≤ 255 := by
  obtain ⟨A, c, h1, h2, h3, h4⟩ := h
  obtain ⟨b', o', hb, hA, hc⟩ := h4 (by have := (List.getElem?_eq_some_iff.1 hx).1; omega)
  injection h1 with h1 _ _
  subst hA
  injection h1 with h1
  injection h1 with h1 h5
  subst h1 h5
  exact hc i x hx
def bytesE (D : Nat → Prop) (v : Value) (bs : List Nat) : En := .ro D (fun w => BytesD D w v bs)
end
section
variable {ρ : Operand → Value} {d : Option Tmp} {x y : Operand} {t T1 : TypeId} {pos : String} {aft : Array Edge} {gd : Option (Nat × Bool)} {w : World}
theorem ex_conv8 {a : Nat} (hx : ρ x = .int .u8 (a : Int)) (h : a ≤ 255) : (execOp ρ ⟨d, .convert 5 3 x, t, pos, aft, gd⟩).run Tryd.prog w = .ok (.value (.int .i64 (a : Int))) w := by
  have e : IntKind.i64.wrap (a : Int) = (a : Int) := wrap_in (by omega) (by omega)
  simp [go_sem, hx, e]
theorem ex_remg {a b q : Nat} (hx : ρ x = .int .i64 (a : Int)) (hy : ρ y = .int .i64 (b : Int)) (h : 0 < b) (hq : a % b = q) : (execOp ρ ⟨d, .binOp .rem 3 x y T1, t, pos, aft, gd⟩).run Tryd.prog w = .ok (.value (.int .i64 ((q : Nat) : Int))) w := by
  subst hq
  have e2 : (a : Int).tmod (b : Int) = ((a % b : Nat) : Int) := by simp [Int.tmod_eq_emod_of_nonneg]
  have hb : ¬ b = 0 := by omega
  simp [go_sem, hx, hy, e2, hb]
theorem ex_rem8 {a b q : Nat} (hx : ρ x = .int .u8 (a : Int)) (hy : ρ y = .int .u8 (b : Int)) (h : 0 < b) (hq : a % b = q) : (execOp ρ ⟨d, .binOp .rem 5 x y T1, t, pos, aft, gd⟩).run Tryd.prog w = .ok (.value (.int .u8 ((q : Nat) : Int))) w := by
  subst hq
  have e2 : (a : Int).tmod (b : Int) = ((a % b : Nat) : Int) := by simp [Int.tmod_eq_emod_of_nonneg]
  have hb : ¬ b = 0 := by omega
  simp [go_sem, hx, hy, e2, hb]
end
/-- 1 to i, and noughts behind: n numbers. -/
def numL (n i : Nat) : List Int := (List.range n).map fun k => if k < i then ((k + 1 : Nat) : Int) else 0
end Go.Proofs.YtpeoodkepjhhiaaDoor
namespace Go.Proofs.YtpeoodkepjhhiaaDoor
open Go Go.ChangeShapes Go.WideShapes Go.ChangeAt Go.RowKit Go.Deep Go.Joins
section
variable {H : Type} {enc : TypeId × Value → H} {W : World} {held : Bool}
end
theorem byte_nat {x : Int} (h : (Lit.int .u8 x).wf = true) : ∃ n : Nat, n ≤ 255 ∧ x = (n : Int) := by
  simp [Lit.wf] at h
  have e1 : IntKind.u8.min = 0 := rfl
  have e2 : IntKind.u8.max = 255 := rfl
  rw [e1, e2] at h
  exact ⟨x.toNat, by omega, by omega⟩
end Go.Proofs.YtpeoodkepjhhiaaDoor
namespace Go.Proofs.YtpeoodkepjhhiaaDoor
open Go Go.RowKit
def leavesOf (ts : List VN) : List Int := (ts.map (·.v)).filter fun v => decide (v ≠ 0)
def lvT (ts : List VN) (i : Nat) : List Int := leavesOf (ts.take i)
theorem lvT_zero (ts : List VN) : lvT ts 0 = [] := by simp [lvT, leavesOf]
theorem lvT_all (ts : List VN) : lvT ts ts.length = leavesOf ts := by unfold lvT; rw [List.take_length]
theorem lvT_le (ts : List VN) (i : Nat) : (lvT ts i).length ≤ i := by
  unfold lvT leavesOf
  refine Nat.le_trans (List.length_filter_le _ _) ?_
  rw [List.length_map, List.length_take]
  omega
theorem take_snoc {ts : List VN} {i : Nat} {x : VN} (h : ts[i]? = some x) : ts.take (i + 1) = ts.take i ++ [x] := by
  rw [List.take_add_one, h]; rfl
theorem lvT_zero_ {ts : List VN} {i : Nat} {l r v : Int} (h : ts[i]? = some ⟨l, r, v⟩) (hv : ¬ v ≠ 0) : lvT ts (i + 1) = lvT ts i := by
  have hv : v = 0 := by omega
  subst hv
  unfold lvT leavesOf
  rw [take_snoc h]
  simp
theorem lvT_more {ts : List VN} {i : Nat} {l r v : Int} (h : ts[i]? = some ⟨l, r, v⟩) (hv : v ≠ 0) : lvT ts (i + 1) = lvT ts i ++ [v] := by
  unfold lvT leavesOf
  rw [take_snoc h]
  simp [hv]
theorem intCs_snoc (l : List Int) (x : Int) : intCs l ++ [.int .i64 x] = intCs (l ++ [x]) := by simp [intCs]
theorem leaves_ {W : World} {D : Nat → Prop} {b o c : Nat} {ts : List VN} (hN : NodesD D W (.slice (some ⟨b, o, none⟩) ts.length c) ts) (hD : ∀ k, D k → k < W.heap.size) (hsz : ts.length ≤ 1000000) :
    Calls Tryd.prog 30 #[.slice (some ⟨b, o, none⟩) ts.length c] W fun e w' => ∃ A' c', e = .returned (.slice A' (leavesOf ts).length c') ∧ Own Z0 W w' [.row (.slice A' (leavesOf ts).length c') 3 1 (leavesOf ts).length (intCs (leavesOf ts))] := by
  have O0 : Own Z0 W W [.ro D (fun w => NodesD D w (.slice (some ⟨b, o, none⟩) ts.length c) ts)] := (Own.start W).oldro (D := D) (p := (fun w => NodesD D w (.slice (some ⟨b, o, none⟩) ts.length c) ts)) (nodesE_holds hN hD)
  refine sx_enter (args := [.slice (some ⟨b, o, none⟩) ts.length c]) Tryd.func30 rfl rfl (by simp) ?_
  refine cw_seq (fun FK1 K1 => ?_)
  refine cw_region ?_
  refine wl_val (v := .slice none 0 0) (fun ρ e => ex_assign (e _ _ rfl)) rfl rfl ?_
  refine wl_nil ?_
  refine xw_next K1 ?_
  refine cw_seq (fun FK2 K2 => ?_)
  refine cw_region ?_
  refine wl_val (v := .slice none 0 0) (fun ρ e => ex_assign (e _ _ rfl)) rfl rfl ?_
  refine wl_nil ?_
  refine xw_next K2 ?_
  refine cw_seq (fun FK3 K3 => ?_)
  refine cw_seq (fun FK4 K4 => ?_)
  refine cw_region ?_
  refine wl_val (v := .slice (some ⟨b, o, none⟩) ts.length c) (fun ρ e => ex_move (e _ _ rfl)) rfl rfl ?_
  refine wl_val (v := .int .i64 ((ts.length : Nat) : Int)) (fun ρ e => ex_len el23 (e _ _ rfl)) rfl rfl ?_
  refine wl_val (v := .int .i64 0) (fun ρ e => ex_move (e _ _ rfl)) rfl rfl ?_
  refine wl_nil ?_
  refine xw_next K4 ?_
  refine cw_block ?_
  have O5 : Own Z0 W W [.row (.slice none 0 0) 3 1 0 (intCs (lvT ts 0)), .ro D (fun w => NodesD D w (.slice (some ⟨b, o, none⟩) ts.length c) ts)] := by rw [lvT_zero]; exact (O0).nilrow 3 1
  refine cw_loop (ι := Nat × Nat × Option Addr × Nat) (fun q => [(6, .slice (some ⟨b, o, none⟩) ts.length c), (7, .int .i64 ((ts.length : Nat) : Int)), (3, .slice q.2.2.1 q.2.1 q.2.2.2), (8, .int .i64 (q.1 : Int))]) (fun q X => (q.1 ≤ ts.length) ∧ (q.2.1 = (lvT ts q.1).length) ∧ Own Z0 W X [.row (.slice q.2.2.1 q.2.1 q.2.2.2) 3 1 q.2.1 (intCs (lvT ts q.1)), .ro D (fun w => NodesD D w (.slice (some ⟨b, o, none⟩) ts.length c) ts)]) (fun q => ts.length - q.1) (0, 0, none, 0) ⟨Nat.zero_le _, (by rw [lvT_zero]; rfl), O5⟩ ⟨rfl, rfl, rfl, rfl, trivial⟩ (fun q w6 hJ F7 K8 => ?_)
  obtain ⟨i, n, R, rc⟩ := q
  obtain ⟨hi0, hn, O9⟩ := hJ
  dsimp only at hi0 hn O9 ⊢
  by_cases hi : i < ts.length
  · skip
    obtain ⟨⟨xl, xr, xv⟩, hx⟩ : ∃ x, ts[i]? = some x := ⟨ts[i], List.getElem?_eq_getElem hi⟩
    have hlv := lvT_le ts i
    refine cw_seq (fun FK10 K10 => ?_)
    refine cw_region ?_
    refine wl_val (v := .bool true) (fun ρ e => ex_cmp (u := (i : Int)) (v := ((ts.length : Nat) : Int)) (e _ _ rfl) (e _ _ rfl) (lss1 (by omega))) rfl rfl ?_
    refine wl_nil ?_
    refine xw_next K10 ?_
    refine cw_seq (fun FK11 K11 => ?_)
    refine cw_true rfl ?_
    refine cw_skip ?_
    refine xw_next K11 ?_
    refine cw_seq (fun FK12 K12 => ?_)
    refine cw_block ?_
    refine cw_seq (fun FK13 K13 => ?_)
    refine cw_region ?_
    refine wl_val (v := .pointer (some ⟨b, o + i * 3, none⟩)) (fun ρ e => ex_idx (q := o + i * 3) (i := i) el23 (e _ _ rfl) (e _ _ rfl) (by omega) (by omega)) rfl rfl ?_
    refine wl_val (v := .agg #[.int .i64 xl, .int .i64 xr, .int .i64 xv]) (fun ρ e => ex_loadN (vs := [.int .i64 xl, .int .i64 xr, .int .i64 xv]) ty38 (e _ _ rfl) rfl (cells3 (NodesD.c0 ((O9.ro 1 rfl : (fun w => NodesD D w (.slice (some ⟨b, o, none⟩) ts.length c) ts) _) : NodesD _ _ _ _) hx) (NodesD.c1 ((O9.ro 1 rfl : (fun w => NodesD D w (.slice (some ⟨b, o, none⟩) ts.length c) ts) _) : NodesD _ _ _ _) hx) (NodesD.c2 ((O9.ro 1 rfl : (fun w => NodesD D w (.slice (some ⟨b, o, none⟩) ts.length c) ts) _) : NodesD _ _ _ _) hx))) rfl rfl ?_
    obtain ⟨g14, w15, r16, O17, hg18, hs19⟩ := own_alloc O9 38 ze38 rfl
    refine wl_val (v := .pointer (some ⟨g14, 0, none⟩)) (fun ρ e => r16 ρ _ _ _ _ _) rfl rfl ?_
    obtain ⟨w20, r21, O22, hs23⟩ := own_put (o := 0) (n := 3) O17 ty38 (.agg #[.int .i64 xl, .int .i64 xr, .int .i64 xv]) [.int .i64 xl, .int .i64 xr, .int .i64 xv] (cs' := #[.int .i64 xl, .int .i64 xr, .int .i64 xv]) rfl rfl rfl (Nat.le_of_ble_eq_true rfl) rfl
    refine wl_none (fun ρ e => r21 ρ _ _ _ _ _ _ (e _ _ rfl) (e _ _ rfl)) rfl ?_
    refine wl_nil ?_
    refine xw_next K13 ?_
    refine cw_seq (fun FK24 K24 => ?_)
    refine cw_region ?_
    refine wl_val (v := .pointer (some ⟨g14, 2, none⟩)) (fun ρ e => ex_field (q := 2) fi38_2 (e _ _ rfl) rfl) rfl rfl ?_
    refine wl_val (v := .int .i64 xv) (fun ρ e => ex_load1 ty3 (e _ _ rfl) (O22.cell 0 2 rfl rfl)) rfl rfl ?_
    by_cases c25 : xv ≠ 0
    · skip
      refine wl_val (v := .bool true) (fun ρ e => ex_cmp (u := xv) (v := 0) (e _ _ rfl) (e _ _ rfl) (neq1 (by omega))) rfl rfl ?_
      refine wl_nil ?_
      refine xw_next K24 ?_
      refine cw_true rfl ?_
      refine cw_region ?_
      refine wl_val (v := .slice R n rc) (fun ρ e => ex_move (e _ _ rfl)) rfl rfl ?_
      refine wl_val (v := .pointer (some ⟨g14, 2, none⟩)) (fun ρ e => ex_field (q := 2) fi38_2 (e _ _ rfl) rfl) rfl rfl ?_
      refine wl_val (v := .int .i64 xv) (fun ρ e => ex_load1 ty3 (e _ _ rfl) (O22.cell 0 2 rfl rfl)) rfl rfl ?_
      obtain ⟨g26, w27, r28, O29, hg30, hs31⟩ := own_slice O22 el36 ze3 1 [(0, .int .i64 xv)] (cs := #[.int .i64 xv]) (by decide) (by kernel_rfl)
      refine wl_val (v := .slice (some ⟨g26, 0, none⟩) 1 1) (fun ρ e => r28 ρ _ _ _ _ _ _ (e.parts rfl)) rfl rfl ?_
      obtain ⟨A32, c33, w34, r35, O36, hz37, hc38⟩ := own_app1 (O29.re [2, 0, 1, 3] rfl : Own Z0 W w27 [.row (.slice R n rc) 3 1 n (intCs (lvT ts i)), .blk g26 3 #[.int .i64 xv], .blk g14 38 #[.int .i64 xl, .int .i64 xr, .int .i64 xv], .ro D (fun w => NodesD D w (.slice (some ⟨b, o, none⟩) ts.length c) ts)]) ap36 ((O29.re [2, 0, 1, 3] rfl : Own Z0 W w27 [.row (.slice R n rc) 3 1 n (intCs (lvT ts i)), .blk g26 3 #[.int .i64 xv], .blk g14 38 #[.int .i64 xl, .int .i64 xr, .int .i64 xv], .ro D (fun w => NodesD D w (.slice (some ⟨b, o, none⟩) ts.length c) ts)]).blk 1 rfl) (cells := [.int .i64 xv]) rfl rfl (by omega) (by omega) (ys := (intCs (lvT ts i ++ [xv]))) (intCs_snoc _ _)
      refine wl_val (v := .slice A32 (n + 1) c33) (fun ρ e => r35 ρ _ _ _ _ _ _ _ (e _ _ rfl) (e _ _ rfl)) rfl rfl ?_
      refine wl_val (v := .slice A32 (n + 1) c33) (fun ρ e => ex_assign (e _ _ rfl)) rfl rfl ?_
      refine wl_nil ?_
      refine xw_block ?_
      refine xw_next K12 ?_
      refine cw_region ?_
      refine wl_val (v := .int .i64 ((i + 1 : Nat) : Int)) (fun ρ e => ex_arith (k := .i64) (u := (i : Int)) (v := 1) (e _ _ rfl) (e _ _ rfl) (congrArg some ((congrArg _ (by omega)).trans (wrap_in (u := ((i + 1 : Nat) : Int)) (by omega) (by omega))))) rfl rfl ?_
      refine wl_val (v := .int .i64 ((i + 1 : Nat) : Int)) (fun ρ e => ex_move (e _ _ rfl)) rfl rfl ?_
      refine wl_nil ?_
      have hst : lvT ts (i + 1) = lvT ts i ++ [xv] := lvT_more hx c25
      have O39 : Own Z0 W w34 [.row (.slice A32 (n + 1) c33) 3 1 (n + 1) (intCs (lvT ts (i + 1))), .ro D (fun w => NodesD D w (.slice (some ⟨b, o, none⟩) ts.length c) ts)] := by rw [hst]; exact (O36.re [0, 3] rfl : Own Z0 W w34 [.row (.slice A32 (n + 1) c33) 3 1 (n + 1) (intCs (lvT ts i ++ [xv])), .ro D (fun w => NodesD D w (.slice (some ⟨b, o, none⟩) ts.length c) ts)])
      refine xw_round K8 (i + 1, n + 1, A32, c33) (by show ts.length - (i + 1) < ts.length - i; omega) ⟨(by show i + 1 ≤ ts.length; omega), (by show n + 1 = (lvT ts (i + 1)).length; rw [hst]; simp [hn]), O39⟩ ⟨rfl, rfl, rfl, rfl, trivial⟩
    · skip
      refine wl_val (v := .bool false) (fun ρ e => ex_cmp (u := xv) (v := 0) (e _ _ rfl) (e _ _ rfl) (neq0 (by omega))) rfl rfl ?_
      refine wl_nil ?_
      refine xw_next K24 ?_
      refine cw_false rfl ?_
      refine cw_skip ?_
      refine xw_block ?_
      refine xw_next K12 ?_
      refine cw_region ?_
      refine wl_val (v := .int .i64 ((i + 1 : Nat) : Int)) (fun ρ e => ex_arith (k := .i64) (u := (i : Int)) (v := 1) (e _ _ rfl) (e _ _ rfl) (congrArg some ((congrArg _ (by omega)).trans (wrap_in (u := ((i + 1 : Nat) : Int)) (by omega) (by omega))))) rfl rfl ?_
      refine wl_val (v := .int .i64 ((i + 1 : Nat) : Int)) (fun ρ e => ex_move (e _ _ rfl)) rfl rfl ?_
      refine wl_nil ?_
      have hst : lvT ts (i + 1) = lvT ts i := lvT_zero_ hx c25
      have O40 : Own Z0 W w20 [.row (.slice R n rc) 3 1 n (intCs (lvT ts (i + 1))), .ro D (fun w => NodesD D w (.slice (some ⟨b, o, none⟩) ts.length c) ts)] := by rw [hst]; exact (O22.re [1, 2] rfl : Own Z0 W w20 [.row (.slice R n rc) 3 1 n (intCs (lvT ts i)), .ro D (fun w => NodesD D w (.slice (some ⟨b, o, none⟩) ts.length c) ts)])
      refine xw_round K8 (i + 1, n, R, rc) (by show ts.length - (i + 1) < ts.length - i; omega) ⟨(by show i + 1 ≤ ts.length; omega), (by show n = (lvT ts (i + 1)).length; rw [hst]; simp [hn]), O40⟩ ⟨rfl, rfl, rfl, rfl, trivial⟩
  · have hie : i = ts.length := by omega
    refine cw_seq (fun FK41 K41 => ?_)
    refine cw_region ?_
    refine wl_val (v := .bool false) (fun ρ e => ex_cmp (u := (i : Int)) (v := ((ts.length : Nat) : Int)) (e _ _ rfl) (e _ _ rfl) (lss0 (by omega))) rfl rfl ?_
    refine wl_nil ?_
    refine xw_next K41 ?_
    refine cw_seq (fun FK42 K42 => ?_)
    refine cw_false rfl ?_
    refine cw_exit ?_
    refine xw_past (by intro h; cases h) ?_
    refine xw_past (by intro h; cases h) ?_
    refine xw_here ?_
    refine xw_next K3 ?_
    refine cw_seq (fun FK43 K43 => ?_)
    refine cw_region ?_
    refine wl_val (v := .slice R n rc) (fun ρ e => ex_move (e _ _ rfl)) rfl rfl ?_
    refine wl_val (v := .slice R n rc) (fun ρ e => ex_assign (e _ _ rfl)) rfl rfl ?_
    refine wl_nil ?_
    refine xw_next K43 ?_
    refine cw_ret ?_
    refine xw_ret (v := .slice R n rc) (fun T hT => res1 rfl T _ (hT 2 _ rfl)) ?_
    subst hie
    rw [lvT_all] at hn
    subst hn
    rw [lvT_all] at O9
    exact ⟨R, rc, rfl, O9.re [0] rfl⟩

end Go.Proofs.YtpeoodkepjhhiaaDoor
namespace Go.Proofs.YtpeoodkepjhhiaaDoor

def chainL (u : List Int) : Nat → Nat → List Int
  | 0, _ => []
  | n + 1, k => (k : Int) :: (match u[k]? with
    | none => []
    | some p => if p = -1 then [] else chainL u n p.toNat)
def chainOf (ts : List VN) (k : Nat) : List Int := chainL (parsOf ts) ts.length k
def firstIn (l m : List Int) : Int := match l.find? (fun x => decide (x ∈ m)) with
  | some x => x
  | none => -1
section
variable {ts : List VN}
theorem chain_fuel (hV : Val ts) : ∀ (n m k : Nat), ts.length ≤ k + n → ts.length ≤ k + m → k < ts.length → chainL (parsOf ts) n k = chainL (parsOf ts) m k
  | 0, _, k, h, _, hk => absurd h (by omega)
  | n + 1, 0, k, _, h, hk => absurd h (by omega)
  | n + 1, m + 1, k, h1, h2, hk => by
    unfold chainL
    by_cases e : k = ts.length - 1
    · subst e
      rw [par_last hV]
      rfl
    · obtain ⟨p, _, _, _, _, h3, h4, h5⟩ := par_get hV (k := k) (by omega)
      rw [h5]
      simp only [Int.toNat_natCast, if_neg (show ¬ (p : Int) = -1 by omega)]
      rw [chain_fuel hV n m p (by omega) (by omega) h4]
theorem chain_last (hV : Val ts) {n : Nat} (hn : 0 < n) : chainL (parsOf ts) n (ts.length - 1) = [((ts.length - 1 : Nat) : Int)] := by
  obtain ⟨n, rfl⟩ : ∃ m, n = m + 1 := ⟨n - 1, by omega⟩
  unfold chainL
  rw [par_last hV]
  rfl
theorem chain_step {n k p : Nat} (h : (parsOf ts)[k]? = some (p : Int)) : chainL (parsOf ts) (n + 1) k = (k : Int) :: chainL (parsOf ts) n p := by
  conv => lhs; unfold chainL
  rw [h]
  simp only [Int.toNat_natCast, if_neg (show ¬ (p : Int) = -1 by omega)]
theorem chain_up (hV : Val ts) {k p : Nat} (hp : p < ts.length) (hk : k < p) (h : (parsOf ts)[k]? = some (p : Int)) : chainOf ts k = (k : Int) :: chainOf ts p := by
  unfold chainOf
  rw [chain_fuel hV ts.length (ts.length + 1) k (by omega) (by omega) (by omega), chain_step h]
end
end Go.Proofs.YtpeoodkepjhhiaaDoor
namespace Go.Proofs.YtpeoodkepjhhiaaDoor

/-- n numbers: the first i of them are those of the law, from y on. -/
def ordL (n y i : Nat) : List Int := (List.range n).map fun k => if k < i then ((1 + (k + y) % 128 : Nat) : Int) else 0
theorem ordL_len (n y i : Nat) : (ordL n y i).length = n := by simp [ordL]
theorem ordL_zero (n y : Nat) : ordL n y 0 = List.replicate n 0 := by
  apply List.ext_getElem?
  intro k
  by_cases h : k < n <;> simp [ordL, h]
theorem ordL_set {n y i : Nat} (hi : i < n) : (ordL n y i).set i ((1 + (i + y) % 128 : Nat) : Int) = ordL n y (i + 1) := by
  apply List.ext_getElem?
  intro k
  rw [List.getElem?_set]
  by_cases hk : k < n
  · by_cases e : i = k
    · subst e; simp [ordL, hk]
    · by_cases hlt : k < i
      · simp [ordL, hk, e, hlt, show k < i + 1 by omega]
      · simp [ordL, hk, e, hlt, show ¬ k < i + 1 by omega]
  · have e : ¬ i = k := by omega
    simp [ordL, hk, e]
theorem ordL_in {n y : Nat} {v : Int} (h : v ∈ ordL n y n) : 1 ≤ v ∧ v ≤ 128 := by
  unfold ordL at h
  obtain ⟨k, hk, rfl⟩ := List.mem_map.1 h
  rw [if_pos (List.mem_range.1 hk)]
  omega
theorem ordL_nodup {n : Nat} (hn : n ≤ 128) (y : Nat) : (ordL n y n).Nodup := by
  unfold ordL
  rw [List.nodup_iff_pairwise_ne, List.pairwise_map]
  refine List.Pairwise.imp_of_mem ?_ (List.nodup_iff_pairwise_ne.1 List.nodup_range)
  intro a b ha hb hne
  have ha := List.mem_range.1 ha
  have hb := List.mem_range.1 hb
  rw [if_pos ha, if_pos hb]
  omega
def Tr.depth : Tr → Nat
  | .leaf _ => 0
  | .node a b => max a.depth b.depth + 1
/-- Every left child is a leaf. -/
def chR : Tr → Prop
  | .leaf _ => True
  | .node a b => (∃ v, a = .leaf v) ∧ chR b
/-- Every right child is a leaf. -/
def chL : Tr → Prop
  | .leaf _ => True
  | .node a b => (∃ v, b = .leaf v) ∧ chL a
theorem mkT_depth : ∀ (k : Nat) (l : List Int) (D : Nat), 0 < l.length → l.length ≤ k → l.length ≤ 2 ^ D → (mkT (gOf 3) k l).depth ≤ D
  | 0, l, D, h1, h2, _ => by omega
  | k + 1, l, D, h1, h2, h3 => by
    by_cases h : l.length ≤ 1
    · match l, h1, h with
      | [v], _, _ => exact Nat.zero_le _
    · have hk := gOf_good 3 l.length (by omega)
      rw [mkT_more (by omega)]
      cases D with
      | zero => simp at h3; omega
      | succ D =>
        rw [Nat.pow_succ] at h3
        have hg : gOf 3 l.length = (l.length + 1) / 2 := rfl
        have q1 := mkT_depth k (l.take (gOf 3 l.length)) D (by rw [List.length_take]; omega) (by rw [List.length_take]; omega) (by rw [List.length_take, hg]; omega)
        have q2 := mkT_depth k (l.drop (gOf 3 l.length)) D (by rw [List.length_drop]; omega) (by rw [List.length_drop]; omega) (by rw [List.length_drop, hg]; omega)
        simp only [Tr.depth]
        omega
theorem mkT_leaf {g : Nat → Nat} {k : Nat} {l : List Int} (h1 : l.length = 1) (hk : 0 < k) : ∃ v, mkT g k l = .leaf v := by
  obtain ⟨k, rfl⟩ : ∃ m, k = m + 1 := ⟨k - 1, by omega⟩
  match l, h1 with
  | [v], _ => exact ⟨v, rfl⟩
theorem mkT_right : ∀ (k : Nat) (l : List Int), 0 < l.length → l.length ≤ k → chR (mkT (gOf 1) k l)
  | 0, l, h1, h2 => by omega
  | k + 1, l, h1, h2 => by
    by_cases h : l.length ≤ 1
    · match l, h1, h with
      | [v], _, _ => trivial
    · rw [mkT_more (by omega)]
      have hg : gOf 1 l.length = 1 := rfl
      exact ⟨mkT_leaf (by rw [List.length_take, hg]; omega) (by omega), mkT_right k _ (by rw [List.length_drop, hg]; omega) (by rw [List.length_drop, hg]; omega)⟩
theorem mkT_left : ∀ (k : Nat) (l : List Int), 0 < l.length → l.length ≤ k → chL (mkT (gOf 2) k l)
  | 0, l, h1, h2 => by omega
  | k + 1, l, h1, h2 => by
    by_cases h : l.length ≤ 1
    · match l, h1, h with
      | [v], _, _ => trivial
    · rw [mkT_more (by omega)]
      have hg : gOf 2 l.length = l.length - 1 := rfl
      exact ⟨mkT_leaf (by rw [List.length_drop, hg]; omega) (by omega), mkT_left k _ (by rw [List.length_take, hg]; omega) (by rw [List.length_take, hg]; omega)⟩
theorem depth_make (kd : Nat) {n : Nat} (y : Nat) (h0 : 0 < n) (hn : n ≤ 128) : ∃ T, makeOf kd (ordL n y n) = (post T 0, 0) ∧ GoodT T ∧ T.leaves = ordL n y n ∧ T.size = 2 * n - 1 ∧ (kd = 3 → ∀ D, n ≤ 2 ^ D → T.depth ≤ D) ∧ (kd = 1 → chR T) ∧ (kd = 2 → chL T) := by
  have hl := ordL_len n y n
  have ho : ordB (ordL n y n) = true := ordB_iff.2 ⟨by omega, opreB_iff.2 ⟨fun v hv => ordL_in hv, ordL_nodup hn y⟩⟩
  obtain ⟨h1, h2⟩ := mkT_leaves (gOf_good kd) (ordL n y n).length (ordL n y n) (by omega) (Nat.le_refl _)
  refine ⟨mkT (gOf kd) (ordL n y n).length (ordL n y n), by unfold makeOf; rw [ho]; rfl, ⟨by rw [h1]; exact ordL_nodup hn y, fun v hv => ordL_in (by rwa [h1] at hv)⟩, h1, by rw [h2, hl], ?_, ?_, ?_⟩
  · rintro rfl D hD
    exact mkT_depth _ _ D (by omega) (Nat.le_refl _) (by rw [hl]; exact hD)
  · rintro rfl
    exact mkT_right _ _ (by omega) (Nat.le_refl _)
  · rintro rfl
    exact mkT_left _ _ (by omega) (Nat.le_refl _)
section
variable {ts : List VN}
theorem par_child (hV : Val ts) {p a b k : Nat} (hx : ts[p]? = some ⟨(a : Int), (b : Int), 0⟩) (hk : k = a ∨ k = b) : (parsOf ts)[k]? = some (p : Int) ∧ k < p ∧ p < ts.length := by
  obtain ⟨h1, h2, _, h3⟩ := hV.in_ hx
  refine ⟨?_, by omega, h3⟩
  simp [parsOf, show k < ts.length by omega, parTo_is hV hx hk ts.length h3 (Nat.le_refl _)]
theorem chain_root (hV : Val ts) : chainOf ts (ts.length - 1) = [((ts.length - 1 : Nat) : Int)] := chain_last hV hV.pos
/-- The way up from a node of a subtree: at most the subtree's depth, and the way from its root. -/
theorem chain_deep (hV : Val ts) : ∀ (S : Tr) (n i : Nat), Lies ts n S → n ≤ i → i < n + S.size → (chainOf ts i).length ≤ (chainOf ts (n + S.size - 1)).length + S.depth
  | .leaf v, n, i, hs, h1, h2 => by
    simp only [Tr.size] at h2 ⊢
    have e : i = n := by omega
    subst e
    simp
  | .node a b, n, i, hs, h1, h2 => by
    simp only [Tr.size] at h2
    have ha := a.size_pos
    have hb := b.size_pos
    have e0 : n + (Tr.node a b).size - 1 = n + a.size + b.size := by simp only [Tr.size]; omega
    rw [e0]
    simp only [Tr.depth]
    by_cases e1 : i = n + a.size + b.size
    · subst e1; omega
    · by_cases e2 : i < n + a.size
      · have ih := chain_deep hV a n i hs.left h1 e2
        obtain ⟨q1, q2, q3⟩ := par_child hV hs.root (k := n + a.size - 1) (.inl rfl)
        rw [chain_up hV q3 q2 q1, List.length_cons] at ih
        omega
      · have ih := chain_deep hV b (n + a.size) i hs.right (by omega) (by omega)
        obtain ⟨q1, q2, q3⟩ := par_child hV hs.root (k := n + a.size + b.size - 1) (.inr rfl)
        rw [chain_up hV q3 q2 q1, List.length_cons] at ih
        omega
theorem leaf_child : ∀ (S : Tr) (n i : Nat) {a b : Nat}, (∀ v ∈ S.leaves, 1 ≤ v ∧ v ≤ 128) → Lies ts n S → n ≤ i → i < n + S.size → ts[i]? = some ⟨(a : Int), (b : Int), 0⟩ →
    (chR S → ∃ v, ts[a]? = some ⟨-1, -1, v⟩ ∧ 1 ≤ v ∧ v ≤ 128) ∧ (chL S → ∃ v, ts[b]? = some ⟨-1, -1, v⟩ ∧ 1 ≤ v ∧ v ≤ 128)
  | .leaf v, n, i, a, b, h, hs, h1, h2, hx => by
    simp only [Tr.size] at h2
    have e : i = n := by omega
    subst e
    rw [hs.one] at hx
    injection hx with hx
    injection hx with hx _ _
    omega
  | .node A B, n, i, a, b, h, hs, h1, h2, hx => by
    simp only [Tr.size] at h2
    have hA := A.size_pos
    have hB := B.size_pos
    by_cases e1 : i = n + A.size + B.size
    · subst e1
      rw [hs.root] at hx
      injection hx with hx
      injection hx with e2 e3 _
      refine ⟨fun hc => ?_, fun hc => ?_⟩
      · obtain ⟨⟨v, rfl⟩, _⟩ := hc
        obtain rfl : a = n := by simp only [Tr.size] at e2; omega
        exact ⟨v, hs.left.one, h v (by simp [Tr.leaves])⟩
      · obtain ⟨⟨v, rfl⟩, _⟩ := hc
        obtain rfl : b = n + A.size := by simp only [Tr.size] at e3; omega
        exact ⟨v, hs.right.one, h v (by simp [Tr.leaves])⟩
    · by_cases e2 : i < n + A.size
      · have hla : ∀ v ∈ A.leaves, 1 ≤ v ∧ v ≤ 128 := fun v hv => h v (List.mem_append_left _ hv)
        refine ⟨fun hc => ?_, fun hc => (leaf_child A n i hla hs.left h1 e2 hx).2 hc.2⟩
        obtain ⟨⟨v, rfl⟩, _⟩ := hc
        simp only [Tr.size] at e2
        have e : i = n := by omega
        subst e
        rw [hs.left.one] at hx
        injection hx with hx
        injection hx with hx _ _
        omega
      · have hlb : ∀ v ∈ B.leaves, 1 ≤ v ∧ v ≤ 128 := fun v hv => h v (List.mem_append_right _ hv)
        refine ⟨fun hc => (leaf_child B (n + A.size) i hlb hs.right (by omega) (by omega) hx).1 hc.2, fun hc => ?_⟩
        obtain ⟨⟨v, rfl⟩, _⟩ := hc
        simp only [Tr.size] at e1 h2
        have e : i = n + A.size := by omega
        subst e
        rw [hs.right.one] at hx
        injection hx with hx
        injection hx with hx _ _
        omega
end
/-- How the way up is counted: k is where it stands, or -1; d steps lie behind. -/
def UpTo (ts : List VN) (i : Nat) (k : Int) (d : Nat) : Prop := (k = -1 ∧ d + 1 = (chainOf ts i).length) ∨ ∃ m : Nat, k = (m : Int) ∧ m < ts.length ∧ d + 1 + (chainOf ts m).length = (chainOf ts i).length
theorem up_start {ts : List VN} (hV : Val ts) {i : Nat} (hi : i < ts.length) : ∃ k, (parsOf ts)[i]? = some k ∧ UpTo ts i k 0 := by
  by_cases e : i = ts.length - 1
  · subst e
    exact ⟨-1, par_last hV, .inl ⟨rfl, by rw [chain_root hV]; rfl⟩⟩
  · obtain ⟨p, _, _, _, _, h3, h4, h5⟩ := par_get hV (k := i) (by omega)
    exact ⟨_, h5, .inr ⟨p, rfl, h4, by rw [chain_up hV h4 h3 h5, List.length_cons]; omega⟩⟩
theorem up_step {ts : List VN} (hV : Val ts) {i m d : Nat} (hm : m < ts.length) (h : d + 1 + (chainOf ts m).length = (chainOf ts i).length) : ∃ k, (parsOf ts)[m]? = some k ∧ UpTo ts i k (d + 1) ∧ d + 1 < (chainOf ts i).length := by
  by_cases e : m = ts.length - 1
  · subst e
    rw [chain_root hV] at h
    simp only [List.length_cons, List.length_nil] at h
    exact ⟨-1, par_last hV, .inl ⟨rfl, by omega⟩, by omega⟩
  · obtain ⟨p, _, _, _, _, h3, h4, h5⟩ := par_get hV (k := m) (by omega)
    rw [chain_up hV h4 h3 h5, List.length_cons] at h
    exact ⟨_, h5, .inr ⟨p, rfl, h4, by omega⟩, by omega⟩
end Go.Proofs.YtpeoodkepjhhiaaDoor
namespace Go.Proofs.YtpeoodkepjhhiaaDoor
theorem leaves_post : ∀ (T : Tr) (n : Nat), (∀ v ∈ T.leaves, 1 ≤ v ∧ v ≤ 128) → leavesOf (post T n) = T.leaves
  | .leaf v, n, h => by
    obtain ⟨h1, h2⟩ := h v (by simp [Tr.leaves])
    simp [post, leavesOf, Tr.leaves, show ¬ v = 0 by omega]
  | .node a b, n, h => by
    have h1 := leaves_post a n (fun v hv => h v (List.mem_append_left _ hv))
    have h2 := leaves_post b (n + a.size) (fun v hv => h v (List.mem_append_right _ hv))
    unfold leavesOf at h1 h2 ⊢
    simp only [post, List.map_append, List.filter_append, h1, h2, Tr.leaves]
    simp
end Go.Proofs.YtpeoodkepjhhiaaDoor
namespace Go.Proofs.YtpeoodkepjhhiaaDoor
open Go Go.RowKit
def rchkV (ts : List VN) : Int := if rokT ts then 0 else 1
section
variable {l : List VN} {xl xr xv : Int}
end
end Go.Proofs.YtpeoodkepjhhiaaDoor
namespace Go.Proofs.YtpeoodkepjhhiaaDoor
open Go Go.RowKit
end Go.Proofs.YtpeoodkepjhhiaaDoor
namespace Go.Proofs.YtpeoodkepjhhiaaDoor

def setT : Tr → VS
  | .leaf v => VS.empty.with_ v
  | .node a b => (setT a).union (setT b)
def upS (ts : List VN) (i : Nat) : List VS := (List.range ts.length).map fun k => if k < i then setT (trF ts ts.length k) else VS.empty
def setsOf (ts : List VN) : List VS := (List.range ts.length).map fun k => setT (trF ts ts.length k)
section
variable {ts : List VN}
end
end Go.Proofs.YtpeoodkepjhhiaaDoor
namespace Go.Proofs.YtpeoodkepjhhiaaDoor
open Go Go.RowKit
def vcell (s : VS) : List Value := [.int .u64 (s.a.toNat : Int), .int .u64 (s.b.toNat : Int)]
def vcells (l : List VS) : List Value := l.flatMap vcell
section
variable {ρ : Operand → Value} {d : Option Tmp} {x0 y0 : Operand} {t T T1 : TypeId} {pos0 : String} {aft : Array Edge} {gd : Option (Nat × Bool)} {w : World}
theorem ex_conv343 {u : Int} (hx : ρ x0 = .int .i64 u) (h0 : 0 ≤ u) (h1 : u ≤ 1000) : (execOp ρ ⟨d, .convert 3 43 x0, t, pos0, aft, gd⟩).run Tryd.prog w = .ok (.value (.int .u64 u)) w := by
  have h : IntKind.u64.wrap u = u := by rw [IntKind.wrap_u64]; omega
  simp [go_sem, hx, h]
end
section
variable {Z : Bool → Nat → Prop} {w0 w W : World} {L : List En}
end
end Go.Proofs.YtpeoodkepjhhiaaDoor
