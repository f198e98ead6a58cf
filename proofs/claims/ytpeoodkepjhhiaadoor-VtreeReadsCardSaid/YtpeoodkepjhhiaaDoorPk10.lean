/-
  Lemmas and contracts, joined: Vrmove.
-/
import Derived.Test.YtpeoodkepjhhiaaDoorPk8
namespace Go.Proofs.YtpeoodkepjhhiaaDoor
open Go Go.RowKit
theorem rlist_ {ts : List VN} {D : Nat → Prop} {b o c0 : Nat} (hle : ts.length ≤ 255) : ∀ {i : Nat} {T : Tr} {vs : List Nat}, At ts idF i T vs → ∀ (Z : Bool → Nat → Prop) (w0 W : World) (A : Option Addr) (n c : Nat) (l : List VN), Own Z w0 W [.row (.slice A n c) 38 3 n (ncells l), .ro D (fun w => NodesD D w (.slice (some ⟨b, o, none⟩) ts.length c0) ts)] → n + T.size ≤ 1000000 →
    Calls Tryd.prog 80 #[.slice (some ⟨b, o, none⟩) ts.length c0, .int .i64 (i : Int), .slice A n c] W fun e w' => ∃ A' c', e = .returned (.slice A' (n + T.size) c') ∧ Own Z w0 w' [.row (.slice A' (n + T.size) c') 38 3 (n + T.size) (ncells (l ++ post T n)), .ro D (fun w => NodesD D w (.slice (some ⟨b, o, none⟩) ts.length c0) ts)] := by
  intro i T vs hAt
  induction hAt with
  | @leaf i v hx h1 h2 =>
    intro Z w0 W A n c l O0 hlim
    have hi : i < ts.length := (List.getElem?_eq_some_iff.1 hx).1
    have hlf : lf (VN.mk (-1) (-1) v) = true := lf_leaf h1 h2
    simp only [Tr.size] at hlim
    refine sx_enter (args := [.slice (some ⟨b, o, none⟩) ts.length c0, .int .i64 (i : Int), .slice A n c]) Tryd.func80 rfl rfl (by simp) ?_
    refine cw_seq (fun FK1 K1 => ?_)
    refine cw_region ?_
    refine wl_val (v := .slice none 0 0) (fun ρ e => ex_assign (e _ _ rfl)) rfl rfl ?_
    refine wl_nil ?_
    refine xw_next K1 ?_
    refine cw_seq (fun FK2 K2 => ?_)
    refine cw_region ?_
    refine wl_val (v := .slice (some ⟨b, o, none⟩) ts.length c0) (fun ρ e => ex_move (e _ _ rfl)) rfl rfl ?_
    refine wl_val (v := .int .i64 (i : Int)) (fun ρ e => ex_move (e _ _ rfl)) rfl rfl ?_
    refine wl_val (v := .pointer (some ⟨b, o + i * 3, none⟩)) (fun ρ e => ex_idx (q := o + i * 3) (i := i) el23 (e _ _ rfl) (e _ _ rfl) (by omega) (by omega)) rfl rfl ?_
    refine wl_val (v := .agg #[.int .i64 (-1), .int .i64 (-1), .int .i64 v]) (fun ρ e => ex_loadN (vs := [.int .i64 (-1), .int .i64 (-1), .int .i64 v]) ty38 (e _ _ rfl) rfl (cells3 (NodesD.c0 ((O0.ro 1 rfl : (fun w => NodesD D w (.slice (some ⟨b, o, none⟩) ts.length c0) ts) _) : NodesD _ _ _ _) hx) (NodesD.c1 ((O0.ro 1 rfl : (fun w => NodesD D w (.slice (some ⟨b, o, none⟩) ts.length c0) ts) _) : NodesD _ _ _ _) hx) (NodesD.c2 ((O0.ro 1 rfl : (fun w => NodesD D w (.slice (some ⟨b, o, none⟩) ts.length c0) ts) _) : NodesD _ _ _ _) hx))) rfl rfl ?_
    obtain ⟨g3, w4, r5, O6, hg7, hs8⟩ := own_alloc O0 38 ze38 rfl
    refine wl_val (v := .pointer (some ⟨g3, 0, none⟩)) (fun ρ e => r5 ρ _ _ _ _ _) rfl rfl ?_
    obtain ⟨w9, r10, O11, hs12⟩ := own_put (o := 0) (n := 3) O6 ty38 (.agg #[.int .i64 (-1), .int .i64 (-1), .int .i64 v]) [.int .i64 (-1), .int .i64 (-1), .int .i64 v] (cs' := #[.int .i64 (-1), .int .i64 (-1), .int .i64 v]) rfl rfl rfl (Nat.le_of_ble_eq_true rfl) rfl
    refine wl_none (fun ρ e => r10 ρ _ _ _ _ _ _ (e _ _ rfl) (e _ _ rfl)) rfl ?_
    refine wl_nil ?_
    refine xw_next K2 ?_
    refine cw_seq (fun FK13 K13 => ?_)
    refine cw_seq (fun FK14 K14 => ?_)
    refine cw_region ?_
    refine wl_val (v := .agg #[.int .i64 (-1), .int .i64 (-1), .int .i64 v]) (fun ρ e => ex_loadN (vs := [.int .i64 (-1), .int .i64 (-1), .int .i64 v]) ty38 (e _ _ rfl) rfl (O11.cells 0 0 rfl rfl)) rfl rfl ?_
    refine wl_call (args := [.agg #[.int .i64 (-1), .int .i64 (-1), .int .i64 v]]) in_72 rfl rfl rfl ?_
    refine (rleaf_ (VN.mk (-1) (-1) v) (W := w9)).mono ?_
    rintro _ w15 ⟨rfl, hb16⟩
    have O17 : Own Z w0 w15 [.blk g3 38 #[.int .i64 (-1), .int .i64 (-1), .int .i64 v], .row (.slice A n c) 38 3 n (ncells l), .ro D (fun w => NodesD D w (.slice (some ⟨b, o, none⟩) ts.length c0) ts)] := O11.below hb16
    refine ⟨_, rfl, ?_⟩
    refine wl_nil ?_
    refine xw_next K14 ?_
    refine cw_true (congrArg (fun b => some (Value.bool b)) hlf) ?_
    refine cw_seq (fun FK18 K18 => ?_)
    refine cw_region ?_
    refine wl_val (v := .slice A n c) (fun ρ e => ex_move (e _ _ rfl)) rfl rfl ?_
    refine wl_val (v := .agg #[.int .i64 (-1), .int .i64 (-1), .int .i64 v]) (fun ρ e => ex_loadN (vs := [.int .i64 (-1), .int .i64 (-1), .int .i64 v]) ty38 (e _ _ rfl) rfl (O17.cells 0 0 rfl rfl)) rfl rfl ?_
    obtain ⟨g19, w20, r21, O22, hg23, hs24⟩ := own_slice O17 el23 ze38 1 [(0, .agg #[.int .i64 (-1), .int .i64 (-1), .int .i64 v])] (cs := #[.int .i64 (-1), .int .i64 (-1), .int .i64 v]) (by decide) (by kernel_rfl)
    refine wl_val (v := .slice (some ⟨g19, 0, none⟩) 1 1) (fun ρ e => r21 ρ _ _ _ _ _ _ (e.parts rfl)) rfl rfl ?_
    obtain ⟨A25, c26, w27, r28, O29, hz30, hc31⟩ := own_app1 (O22.re [2, 0, 1, 3] rfl : Own Z w0 w20 [.row (.slice A n c) 38 3 n (ncells l), .blk g19 38 #[.int .i64 (-1), .int .i64 (-1), .int .i64 v], .blk g3 38 #[.int .i64 (-1), .int .i64 (-1), .int .i64 v], .ro D (fun w => NodesD D w (.slice (some ⟨b, o, none⟩) ts.length c0) ts)]) ap23 ((O22.re [2, 0, 1, 3] rfl : Own Z w0 w20 [.row (.slice A n c) 38 3 n (ncells l), .blk g19 38 #[.int .i64 (-1), .int .i64 (-1), .int .i64 v], .blk g3 38 #[.int .i64 (-1), .int .i64 (-1), .int .i64 v], .ro D (fun w => NodesD D w (.slice (some ⟨b, o, none⟩) ts.length c0) ts)]).blk 1 rfl) (cells := [.int .i64 (-1), .int .i64 (-1), .int .i64 v]) rfl rfl (by omega) (by omega) (ys := (ncells (l ++ [(VN.mk (-1) (-1) v)]))) (ncells_snoc l (VN.mk (-1) (-1) v))
    refine wl_val (v := .slice A25 (n + 1) c26) (fun ρ e => r28 ρ _ _ _ _ _ _ _ (e _ _ rfl) (e _ _ rfl)) rfl rfl ?_
    refine wl_val (v := .slice A25 (n + 1) c26) (fun ρ e => ex_assign (e _ _ rfl)) rfl rfl ?_
    refine wl_nil ?_
    refine xw_next K18 ?_
    refine cw_ret ?_
    refine xw_past (by intro h; cases h) ?_
    refine xw_ret (v := .slice A25 (n + 1) c26) (fun T hT => res1 rfl T _ (hT 6 _ rfl)) ?_
    have hn : n + 1 = n + Tr.size (.leaf v) := by simp only [Tr.size] <;> omega
    have hl : (l ++ [(VN.mk (-1) (-1) v)]) = l ++ post (.leaf v) n := by simp [post]
    have hO := (O29.re [0, 3] rfl : Own Z w0 w27 [.row (.slice A25 (n + 1) c26) 38 3 (n + 1) (ncells (l ++ [(VN.mk (-1) (-1) v)])), .ro D (fun w => NodesD D w (.slice (some ⟨b, o, none⟩) ts.length c0) ts)])
    rw [hn, hl] at hO
    exact ⟨A25, c26, by rw [hn], hO⟩
  | @node i a b2 a' b' A1 B1 va vb hx hf hA hB ihA ihB =>
    intro Z w0 W A n c l O0 hlim
    have hi : i < ts.length := (List.getElem?_eq_some_iff.1 hx).1
    have hlf : lf (VN.mk (a : Int) (b2 : Int) 0) = false := lf_inner a b2
    simp only [Tr.size] at hlim
    injection hf with e1 e2
    subst e1 e2
    have hsa := A1.size_pos
    have hsb := B1.size_pos
    refine sx_enter (args := [.slice (some ⟨b, o, none⟩) ts.length c0, .int .i64 (i : Int), .slice A n c]) Tryd.func80 rfl rfl (by simp) ?_
    refine cw_seq (fun FK1 K1 => ?_)
    refine cw_region ?_
    refine wl_val (v := .slice none 0 0) (fun ρ e => ex_assign (e _ _ rfl)) rfl rfl ?_
    refine wl_nil ?_
    refine xw_next K1 ?_
    refine cw_seq (fun FK2 K2 => ?_)
    refine cw_region ?_
    refine wl_val (v := .slice (some ⟨b, o, none⟩) ts.length c0) (fun ρ e => ex_move (e _ _ rfl)) rfl rfl ?_
    refine wl_val (v := .int .i64 (i : Int)) (fun ρ e => ex_move (e _ _ rfl)) rfl rfl ?_
    refine wl_val (v := .pointer (some ⟨b, o + i * 3, none⟩)) (fun ρ e => ex_idx (q := o + i * 3) (i := i) el23 (e _ _ rfl) (e _ _ rfl) (by omega) (by omega)) rfl rfl ?_
    refine wl_val (v := .agg #[.int .i64 (a : Int), .int .i64 (b2 : Int), .int .i64 0]) (fun ρ e => ex_loadN (vs := [.int .i64 (a : Int), .int .i64 (b2 : Int), .int .i64 0]) ty38 (e _ _ rfl) rfl (cells3 (NodesD.c0 ((O0.ro 1 rfl : (fun w => NodesD D w (.slice (some ⟨b, o, none⟩) ts.length c0) ts) _) : NodesD _ _ _ _) hx) (NodesD.c1 ((O0.ro 1 rfl : (fun w => NodesD D w (.slice (some ⟨b, o, none⟩) ts.length c0) ts) _) : NodesD _ _ _ _) hx) (NodesD.c2 ((O0.ro 1 rfl : (fun w => NodesD D w (.slice (some ⟨b, o, none⟩) ts.length c0) ts) _) : NodesD _ _ _ _) hx))) rfl rfl ?_
    obtain ⟨g3, w4, r5, O6, hg7, hs8⟩ := own_alloc O0 38 ze38 rfl
    refine wl_val (v := .pointer (some ⟨g3, 0, none⟩)) (fun ρ e => r5 ρ _ _ _ _ _) rfl rfl ?_
    obtain ⟨w9, r10, O11, hs12⟩ := own_put (o := 0) (n := 3) O6 ty38 (.agg #[.int .i64 (a : Int), .int .i64 (b2 : Int), .int .i64 0]) [.int .i64 (a : Int), .int .i64 (b2 : Int), .int .i64 0] (cs' := #[.int .i64 (a : Int), .int .i64 (b2 : Int), .int .i64 0]) rfl rfl rfl (Nat.le_of_ble_eq_true rfl) rfl
    refine wl_none (fun ρ e => r10 ρ _ _ _ _ _ _ (e _ _ rfl) (e _ _ rfl)) rfl ?_
    refine wl_nil ?_
    refine xw_next K2 ?_
    refine cw_seq (fun FK13 K13 => ?_)
    refine cw_seq (fun FK14 K14 => ?_)
    refine cw_region ?_
    refine wl_val (v := .agg #[.int .i64 (a : Int), .int .i64 (b2 : Int), .int .i64 0]) (fun ρ e => ex_loadN (vs := [.int .i64 (a : Int), .int .i64 (b2 : Int), .int .i64 0]) ty38 (e _ _ rfl) rfl (O11.cells 0 0 rfl rfl)) rfl rfl ?_
    refine wl_call (args := [.agg #[.int .i64 (a : Int), .int .i64 (b2 : Int), .int .i64 0]]) in_72 rfl rfl rfl ?_
    refine (rleaf_ (VN.mk (a : Int) (b2 : Int) 0) (W := w9)).mono ?_
    rintro _ w15 ⟨rfl, hb16⟩
    have O17 : Own Z w0 w15 [.blk g3 38 #[.int .i64 (a : Int), .int .i64 (b2 : Int), .int .i64 0], .row (.slice A n c) 38 3 n (ncells l), .ro D (fun w => NodesD D w (.slice (some ⟨b, o, none⟩) ts.length c0) ts)] := O11.below hb16
    refine ⟨_, rfl, ?_⟩
    refine wl_nil ?_
    refine xw_next K14 ?_
    refine cw_false (congrArg (fun b => some (Value.bool b)) hlf) ?_
    refine cw_skip ?_
    refine xw_next K13 ?_
    refine cw_seq (fun FK18 K18 => ?_)
    refine cw_region ?_
    refine wl_val (v := .slice (some ⟨b, o, none⟩) ts.length c0) (fun ρ e => ex_move (e _ _ rfl)) rfl rfl ?_
    refine wl_val (v := .pointer (some ⟨g3, 0, none⟩)) (fun ρ e => ex_field (q := 0) fi38_0 (e _ _ rfl) rfl) rfl rfl ?_
    refine wl_val (v := .int .i64 (a : Int)) (fun ρ e => ex_load1 ty3 (e _ _ rfl) (O17.cell 0 0 rfl rfl)) rfl rfl ?_
    refine wl_val (v := .slice A n c) (fun ρ e => ex_move (e _ _ rfl)) rfl rfl ?_
    refine wl_call (args := [.slice (some ⟨b, o, none⟩) ts.length c0, .int .i64 (a : Int), .slice A n c]) in_80 rfl rfl rfl ?_
    have O23h := Own.hand (A := [.row (.slice A n c) 38 3 n (ncells l), .ro D (fun w => NodesD D w (.slice (some ⟨b, o, none⟩) ts.length c0) ts)]) (R := [.blk g3 38 #[.int .i64 (a : Int), .int .i64 (b2 : Int), .int .i64 0]]) (O17.re [1, 2, 0] rfl : Own Z w0 w15 [.row (.slice A n c) 38 3 n (ncells l), .ro D (fun w => NodesD D w (.slice (some ⟨b, o, none⟩) ts.length c0) ts), .blk g3 38 #[.int .i64 (a : Int), .int .i64 (b2 : Int), .int .i64 0]])
    refine (ihA _ _ _ _ _ _ l O23h (by omega)).mono ?_
    rintro _ w21 ⟨A19, c20, rfl, h22⟩
    have O23 : Own Z w0 w21 [.row (.slice A19 (n + Tr.size A1) c20) 38 3 (n + Tr.size A1) (ncells (l ++ post A1 n)), .ro D (fun w => NodesD D w (.slice (some ⟨b, o, none⟩) ts.length c0) ts), .blk g3 38 #[.int .i64 (a : Int), .int .i64 (b2 : Int), .int .i64 0]] := Own.frame (A := [.row (.slice A n c) 38 3 n (ncells l), .ro D (fun w => NodesD D w (.slice (some ⟨b, o, none⟩) ts.length c0) ts)]) (R := [.blk g3 38 #[.int .i64 (a : Int), .int .i64 (b2 : Int), .int .i64 0]]) (O17.re [1, 2, 0] rfl : Own Z w0 w15 [.row (.slice A n c) 38 3 n (ncells l), .ro D (fun w => NodesD D w (.slice (some ⟨b, o, none⟩) ts.length c0) ts), .blk g3 38 #[.int .i64 (a : Int), .int .i64 (b2 : Int), .int .i64 0]]) h22
    refine ⟨_, rfl, ?_⟩
    refine wl_val (v := .slice A19 (n + Tr.size A1) c20) (fun ρ e => ex_assign (e _ _ rfl)) rfl rfl ?_
    refine wl_nil ?_
    refine xw_next K18 ?_
    refine cw_seq (fun FK24 K24 => ?_)
    refine cw_region ?_
    refine wl_val (v := .slice A19 (n + Tr.size A1) c20) (fun ρ e => ex_move (e _ _ rfl)) rfl rfl ?_
    refine wl_val (v := .int .i64 (((n + Tr.size A1) : Nat) : Int)) (fun ρ e => ex_len el23 (e _ _ rfl)) rfl rfl ?_
    refine wl_val (v := .int .i64 (((n + Tr.size A1) - 1 : Nat) : Int)) (fun ρ e => ex_arith (k := .i64) (u := (((n + Tr.size A1) : Nat) : Int)) (v := 1) (e _ _ rfl) (e _ _ rfl) (congrArg some ((congrArg _ (show _ = (((n + Tr.size A1) - 1 : Nat) : Int) by omega)).trans (wrap_in (by omega) (by omega))))) rfl rfl ?_
    refine wl_val (v := .int .i64 (((n + Tr.size A1) - 1 : Nat) : Int)) (fun ρ e => ex_assign (e _ _ rfl)) rfl rfl ?_
    refine wl_nil ?_
    refine xw_next K24 ?_
    refine cw_seq (fun FK25 K25 => ?_)
    refine cw_region ?_
    refine wl_val (v := .slice (some ⟨b, o, none⟩) ts.length c0) (fun ρ e => ex_move (e _ _ rfl)) rfl rfl ?_
    refine wl_val (v := .pointer (some ⟨g3, 1, none⟩)) (fun ρ e => ex_field (q := 1) fi38_1 (e _ _ rfl) rfl) rfl rfl ?_
    refine wl_val (v := .int .i64 (b2 : Int)) (fun ρ e => ex_load1 ty3 (e _ _ rfl) (O23.cell 2 1 rfl rfl)) rfl rfl ?_
    refine wl_val (v := .slice A19 (n + Tr.size A1) c20) (fun ρ e => ex_move (e _ _ rfl)) rfl rfl ?_
    refine wl_call (args := [.slice (some ⟨b, o, none⟩) ts.length c0, .int .i64 (b2 : Int), .slice A19 (n + Tr.size A1) c20]) in_80 rfl rfl rfl ?_
    have O30h := Own.hand (A := [.row (.slice A19 (n + Tr.size A1) c20) 38 3 (n + Tr.size A1) (ncells (l ++ post A1 n)), .ro D (fun w => NodesD D w (.slice (some ⟨b, o, none⟩) ts.length c0) ts)]) (R := [.blk g3 38 #[.int .i64 (a : Int), .int .i64 (b2 : Int), .int .i64 0]]) O23
    refine (ihB _ _ _ _ _ _ (l ++ post A1 n) O30h (by omega)).mono ?_
    rintro _ w28 ⟨A26, c27, rfl, h29⟩
    have O30 : Own Z w0 w28 [.row (.slice A26 ((n + Tr.size A1) + Tr.size B1) c27) 38 3 ((n + Tr.size A1) + Tr.size B1) (ncells ((l ++ post A1 n) ++ post B1 (n + Tr.size A1))), .ro D (fun w => NodesD D w (.slice (some ⟨b, o, none⟩) ts.length c0) ts), .blk g3 38 #[.int .i64 (a : Int), .int .i64 (b2 : Int), .int .i64 0]] := Own.frame (A := [.row (.slice A19 (n + Tr.size A1) c20) 38 3 (n + Tr.size A1) (ncells (l ++ post A1 n)), .ro D (fun w => NodesD D w (.slice (some ⟨b, o, none⟩) ts.length c0) ts)]) (R := [.blk g3 38 #[.int .i64 (a : Int), .int .i64 (b2 : Int), .int .i64 0]]) O23 h29
    refine ⟨_, rfl, ?_⟩
    refine wl_val (v := .slice A26 ((n + Tr.size A1) + Tr.size B1) c27) (fun ρ e => ex_assign (e _ _ rfl)) rfl rfl ?_
    refine wl_nil ?_
    refine xw_next K25 ?_
    refine cw_seq (fun FK31 K31 => ?_)
    refine cw_region ?_
    refine wl_val (v := .slice A26 ((n + Tr.size A1) + Tr.size B1) c27) (fun ρ e => ex_move (e _ _ rfl)) rfl rfl ?_
    refine wl_val (v := .int .i64 ((((n + Tr.size A1) + Tr.size B1) : Nat) : Int)) (fun ρ e => ex_len el23 (e _ _ rfl)) rfl rfl ?_
    refine wl_val (v := .int .i64 ((((n + Tr.size A1) + Tr.size B1) - 1 : Nat) : Int)) (fun ρ e => ex_arith (k := .i64) (u := ((((n + Tr.size A1) + Tr.size B1) : Nat) : Int)) (v := 1) (e _ _ rfl) (e _ _ rfl) (congrArg some ((congrArg _ (show _ = ((((n + Tr.size A1) + Tr.size B1) - 1 : Nat) : Int) by omega)).trans (wrap_in (by omega) (by omega))))) rfl rfl ?_
    refine wl_val (v := .int .i64 ((((n + Tr.size A1) + Tr.size B1) - 1 : Nat) : Int)) (fun ρ e => ex_assign (e _ _ rfl)) rfl rfl ?_
    refine wl_nil ?_
    refine xw_next K31 ?_
    refine cw_seq (fun FK32 K32 => ?_)
    refine cw_region ?_
    refine wl_val (v := .slice A26 ((n + Tr.size A1) + Tr.size B1) c27) (fun ρ e => ex_move (e _ _ rfl)) rfl rfl ?_
    refine wl_val (v := .int .i64 (((n + Tr.size A1) - 1 : Nat) : Int)) (fun ρ e => ex_move (e _ _ rfl)) rfl rfl ?_
    refine wl_val (v := .int .i64 ((((n + Tr.size A1) + Tr.size B1) - 1 : Nat) : Int)) (fun ρ e => ex_move (e _ _ rfl)) rfl rfl ?_
    refine wl_val (v := .agg #[.int .i64 (((n + Tr.size A1) - 1 : Nat) : Int), .int .i64 ((((n + Tr.size A1) + Tr.size B1) - 1 : Nat) : Int), .int .i64 0]) (fun ρ e => ex_build (cells := #[.int .i64 (((n + Tr.size A1) - 1 : Nat) : Int), .int .i64 ((((n + Tr.size A1) + Tr.size B1) - 1 : Nat) : Int), .int .i64 0]) st38 (e.parts rfl) rfl) rfl rfl ?_
    obtain ⟨g33, w34, r35, O36, hg37, hs38⟩ := own_slice O30 el23 ze38 1 [(0, .agg #[.int .i64 (((n + Tr.size A1) - 1 : Nat) : Int), .int .i64 ((((n + Tr.size A1) + Tr.size B1) - 1 : Nat) : Int), .int .i64 0])] (cs := #[.int .i64 (((n + Tr.size A1) - 1 : Nat) : Int), .int .i64 ((((n + Tr.size A1) + Tr.size B1) - 1 : Nat) : Int), .int .i64 0]) (by decide) (by kernel_rfl)
    refine wl_val (v := .slice (some ⟨g33, 0, none⟩) 1 1) (fun ρ e => r35 ρ _ _ _ _ _ _ (e.parts rfl)) rfl rfl ?_
    obtain ⟨A39, c40, w41, r42, O43, hz44, hc45⟩ := own_app1 (O36.re [1, 0, 2, 3] rfl : Own Z w0 w34 [.row (.slice A26 ((n + Tr.size A1) + Tr.size B1) c27) 38 3 ((n + Tr.size A1) + Tr.size B1) (ncells ((l ++ post A1 n) ++ post B1 (n + Tr.size A1))), .blk g33 38 #[.int .i64 (((n + Tr.size A1) - 1 : Nat) : Int), .int .i64 ((((n + Tr.size A1) + Tr.size B1) - 1 : Nat) : Int), .int .i64 0], .ro D (fun w => NodesD D w (.slice (some ⟨b, o, none⟩) ts.length c0) ts), .blk g3 38 #[.int .i64 (a : Int), .int .i64 (b2 : Int), .int .i64 0]]) ap23 ((O36.re [1, 0, 2, 3] rfl : Own Z w0 w34 [.row (.slice A26 ((n + Tr.size A1) + Tr.size B1) c27) 38 3 ((n + Tr.size A1) + Tr.size B1) (ncells ((l ++ post A1 n) ++ post B1 (n + Tr.size A1))), .blk g33 38 #[.int .i64 (((n + Tr.size A1) - 1 : Nat) : Int), .int .i64 ((((n + Tr.size A1) + Tr.size B1) - 1 : Nat) : Int), .int .i64 0], .ro D (fun w => NodesD D w (.slice (some ⟨b, o, none⟩) ts.length c0) ts), .blk g3 38 #[.int .i64 (a : Int), .int .i64 (b2 : Int), .int .i64 0]]).blk 1 rfl) (cells := [.int .i64 (((n + Tr.size A1) - 1 : Nat) : Int), .int .i64 ((((n + Tr.size A1) + Tr.size B1) - 1 : Nat) : Int), .int .i64 0]) rfl rfl (by omega) (by omega) (ys := (ncells (((l ++ post A1 n) ++ post B1 (n + Tr.size A1)) ++ [(VN.mk (((n + Tr.size A1) - 1 : Nat) : Int) ((((n + Tr.size A1) + Tr.size B1) - 1 : Nat) : Int) 0)]))) (ncells_snoc ((l ++ post A1 n) ++ post B1 (n + Tr.size A1)) (VN.mk (((n + Tr.size A1) - 1 : Nat) : Int) ((((n + Tr.size A1) + Tr.size B1) - 1 : Nat) : Int) 0))
    refine wl_val (v := .slice A39 (((n + Tr.size A1) + Tr.size B1) + 1) c40) (fun ρ e => r42 ρ _ _ _ _ _ _ _ (e _ _ rfl) (e _ _ rfl)) rfl rfl ?_
    refine wl_val (v := .slice A39 (((n + Tr.size A1) + Tr.size B1) + 1) c40) (fun ρ e => ex_assign (e _ _ rfl)) rfl rfl ?_
    refine wl_nil ?_
    refine xw_next K32 ?_
    refine cw_ret ?_
    refine xw_ret (v := .slice A39 (((n + Tr.size A1) + Tr.size B1) + 1) c40) (fun T hT => res1 rfl T _ (hT 6 _ rfl)) ?_
    have hn : ((n + Tr.size A1) + Tr.size B1) + 1 = n + Tr.size (.node A1 B1) := by simp only [Tr.size] <;> omega
    have hl : (((l ++ post A1 n) ++ post B1 (n + Tr.size A1)) ++ [(VN.mk (((n + Tr.size A1) - 1 : Nat) : Int) ((((n + Tr.size A1) + Tr.size B1) - 1 : Nat) : Int) 0)]) = l ++ post (.node A1 B1) n := by simp [post]
    have hO := (O43.re [0, 2] rfl : Own Z w0 w41 [.row (.slice A39 (((n + Tr.size A1) + Tr.size B1) + 1) c40) 38 3 (((n + Tr.size A1) + Tr.size B1) + 1) (ncells (((l ++ post A1 n) ++ post B1 (n + Tr.size A1)) ++ [(VN.mk (((n + Tr.size A1) - 1 : Nat) : Int) ((((n + Tr.size A1) + Tr.size B1) - 1 : Nat) : Int) 0)])), .ro D (fun w => NodesD D w (.slice (some ⟨b, o, none⟩) ts.length c0) ts)])
    rw [hn, hl] at hO
    exact ⟨A39, c40, by rw [hn], hO⟩
theorem rchg1_at {ts : List VN} {D : Nat → Prop} {b o c0 at_ ax bx p q k : Nat} (hV : Val ts) (hle : ts.length ≤ 255) (hat : ts[at_]? = some ⟨(ax : Int), (bx : Int), 0⟩) (hlow : ts[ax]? = some ⟨(p : Int), (q : Int), 0⟩) (hik : at_ < k + 1) (hi : at_ < ts.length) (IH : ∀ (i : Nat), i < k → i < ts.length → ∀ (Z : Bool → Nat → Prop) (w0 W : World) (A : Option Addr) (n c : Nat) (l : List VN), Own Z w0 W [.row (.slice A n c) 38 3 n (ncells l), .ro D (fun w => NodesD D w (.slice (some ⟨b, o, none⟩) ts.length c0) ts)] → n + Tr.size (chT ts 1 at_ k i) ≤ 10000 →
    Calls Tryd.prog 65 #[.slice (some ⟨b, o, none⟩) ts.length c0, .int .i64 (i : Int), .int .i64 (at_ : Int), .int .i64 1, .slice A n c] W fun e w' => ∃ A' c', e = .returned (.slice A' (n + Tr.size (chT ts 1 at_ k i)) c') ∧ Own Z w0 w' [.row (.slice A' (n + Tr.size (chT ts 1 at_ k i)) c') 38 3 (n + Tr.size (chT ts 1 at_ k i)) (ncells (l ++ post (chT ts 1 at_ k i) n)), .ro D (fun w => NodesD D w (.slice (some ⟨b, o, none⟩) ts.length c0) ts)]) (Z : Bool → Nat → Prop) (w0 W : World) (A : Option Addr) (n c : Nat) (l : List VN) (O0 : Own Z w0 W [.row (.slice A n c) 38 3 n (ncells l), .ro D (fun w => NodesD D w (.slice (some ⟨b, o, none⟩) ts.length c0) ts)]) (hlim : n + Tr.size (chT ts 1 at_ (k + 1) at_) ≤ 10000) :
    Calls Tryd.prog 65 #[.slice (some ⟨b, o, none⟩) ts.length c0, .int .i64 (at_ : Int), .int .i64 (at_ : Int), .int .i64 1, .slice A n c] W fun e w' => ∃ A' c', e = .returned (.slice A' (n + Tr.size (chT ts 1 at_ (k + 1) at_)) c') ∧ Own Z w0 w' [.row (.slice A' (n + Tr.size (chT ts 1 at_ (k + 1) at_)) c') 38 3 (n + Tr.size (chT ts 1 at_ (k + 1) at_)) (ncells (l ++ post (chT ts 1 at_ (k + 1) at_) n)), .ro D (fun w => NodesD D w (.slice (some ⟨b, o, none⟩) ts.length c0) ts)] := by
      have hlf : lf (VN.mk (ax : Int) (bx : Int) 0) = false := lf_inner ax bx
      obtain ⟨_, _, _, _⟩ := hV.in_ hat
      obtain ⟨_, _, _, _⟩ := hV.in_ hlow
      have hT : (chT ts 1 at_ (k + 1) at_) = .node (trF ts k p) (.node (trF ts k q) (trF ts k bx)) := chT_r hat hlow
      have hs1 := Tr.size_pos (trF ts k p)
      have hs2 := Tr.size_pos (trF ts k q)
      have hs3 := Tr.size_pos (trF ts k bx)
      rw [hT] at hlim
      simp only [Tr.size] at hlim
      refine sx_enter (args := [.slice (some ⟨b, o, none⟩) ts.length c0, .int .i64 (at_ : Int), .int .i64 (at_ : Int), .int .i64 1, .slice A n c]) Tryd.func65 rfl rfl (by simp) ?_
      refine cw_seq (fun FK1 K1 => ?_)
      refine cw_region ?_
      refine wl_val (v := .slice none 0 0) (fun ρ e => ex_assign (e _ _ rfl)) rfl rfl ?_
      refine wl_nil ?_
      refine xw_next K1 ?_
      refine cw_seq (fun FK2 K2 => ?_)
      refine cw_region ?_
      refine wl_val (v := .slice (some ⟨b, o, none⟩) ts.length c0) (fun ρ e => ex_move (e _ _ rfl)) rfl rfl ?_
      refine wl_val (v := .int .i64 (at_ : Int)) (fun ρ e => ex_move (e _ _ rfl)) rfl rfl ?_
      refine wl_val (v := .pointer (some ⟨b, o + at_ * 3, none⟩)) (fun ρ e => ex_idx (q := o + at_ * 3) (i := at_) el23 (e _ _ rfl) (e _ _ rfl) (by omega) (by omega)) rfl rfl ?_
      refine wl_val (v := .agg #[.int .i64 (ax : Int), .int .i64 (bx : Int), .int .i64 0]) (fun ρ e => ex_loadN (vs := [.int .i64 (ax : Int), .int .i64 (bx : Int), .int .i64 0]) ty38 (e _ _ rfl) rfl (cells3 (NodesD.c0 ((O0.ro 1 rfl : (fun w => NodesD D w (.slice (some ⟨b, o, none⟩) ts.length c0) ts) _) : NodesD _ _ _ _) hat) (NodesD.c1 ((O0.ro 1 rfl : (fun w => NodesD D w (.slice (some ⟨b, o, none⟩) ts.length c0) ts) _) : NodesD _ _ _ _) hat) (NodesD.c2 ((O0.ro 1 rfl : (fun w => NodesD D w (.slice (some ⟨b, o, none⟩) ts.length c0) ts) _) : NodesD _ _ _ _) hat))) rfl rfl ?_
      obtain ⟨g3, w4, r5, O6, hg7, hs8⟩ := own_alloc O0 38 ze38 rfl
      refine wl_val (v := .pointer (some ⟨g3, 0, none⟩)) (fun ρ e => r5 ρ _ _ _ _ _) rfl rfl ?_
      obtain ⟨w9, r10, O11, hs12⟩ := own_put (o := 0) (n := 3) O6 ty38 (.agg #[.int .i64 (ax : Int), .int .i64 (bx : Int), .int .i64 0]) [.int .i64 (ax : Int), .int .i64 (bx : Int), .int .i64 0] (cs' := #[.int .i64 (ax : Int), .int .i64 (bx : Int), .int .i64 0]) rfl rfl rfl (Nat.le_of_ble_eq_true rfl) rfl
      refine wl_none (fun ρ e => r10 ρ _ _ _ _ _ _ (e _ _ rfl) (e _ _ rfl)) rfl ?_
      refine wl_nil ?_
      refine xw_next K2 ?_
      refine cw_seq (fun FK13 K13 => ?_)
      refine cw_seq (fun FK14 K14 => ?_)
      refine cw_region ?_
      refine wl_val (v := .agg #[.int .i64 (ax : Int), .int .i64 (bx : Int), .int .i64 0]) (fun ρ e => ex_loadN (vs := [.int .i64 (ax : Int), .int .i64 (bx : Int), .int .i64 0]) ty38 (e _ _ rfl) rfl (O11.cells 0 0 rfl rfl)) rfl rfl ?_
      refine wl_call (args := [.agg #[.int .i64 (ax : Int), .int .i64 (bx : Int), .int .i64 0]]) in_72 rfl rfl rfl ?_
      refine (rleaf_ (VN.mk (ax : Int) (bx : Int) 0) (W := w9)).mono ?_
      rintro _ w15 ⟨rfl, hb16⟩
      have O17 : Own Z w0 w15 [.blk g3 38 #[.int .i64 (ax : Int), .int .i64 (bx : Int), .int .i64 0], .row (.slice A n c) 38 3 n (ncells l), .ro D (fun w => NodesD D w (.slice (some ⟨b, o, none⟩) ts.length c0) ts)] := O11.below hb16
      refine ⟨_, rfl, ?_⟩
      refine wl_nil ?_
      refine xw_next K14 ?_
      refine cw_false (congrArg (fun b => some (Value.bool b)) hlf) ?_
      refine cw_skip ?_
      refine xw_next K13 ?_
      refine cw_seq (fun FK18 K18 => ?_)
      refine cw_seq (fun FK19 K19 => ?_)
      refine cw_region ?_
      refine wl_val (v := .int .i64 (at_ : Int)) (fun ρ e => ex_move (e _ _ rfl)) rfl rfl ?_
      refine wl_val (v := .int .i64 (at_ : Int)) (fun ρ e => ex_move (e _ _ rfl)) rfl rfl ?_
      refine wl_val (v := .bool true) (fun ρ e => ex_cmp (u := (at_ : Int)) (v := (at_ : Int)) (e _ _ rfl) (e _ _ rfl) (eql1 rfl)) rfl rfl ?_
      refine wl_val (v := .bool true) (fun ρ e => ex_move (e _ _ rfl)) rfl rfl ?_
      refine wl_val (v := .int .i64 1) (fun ρ e => ex_move (e _ _ rfl)) rfl rfl ?_
      refine wl_val (v := .bool true) (fun ρ e => ex_cmp (u := 1) (v := 1) (e _ _ rfl) (e _ _ rfl) (eql1 (by omega))) rfl rfl ?_
      refine wl_val (v := .bool true) (fun ρ e => ex_pick1 (e _ _ rfl) (e _ _ rfl)) rfl rfl ?_
      refine wl_nil ?_
      refine xw_next K19 ?_
      refine cw_true rfl ?_
      refine cw_seq (fun FK20 K20 => ?_)
      refine cw_region ?_
      refine wl_val (v := .slice (some ⟨b, o, none⟩) ts.length c0) (fun ρ e => ex_move (e _ _ rfl)) rfl rfl ?_
      refine wl_val (v := .pointer (some ⟨g3, 0, none⟩)) (fun ρ e => ex_field (q := 0) fi38_0 (e _ _ rfl) rfl) rfl rfl ?_
      refine wl_val (v := .int .i64 (ax : Int)) (fun ρ e => ex_load1 ty3 (e _ _ rfl) (O17.cell 0 0 rfl rfl)) rfl rfl ?_
      refine wl_val (v := .pointer (some ⟨b, o + ax * 3, none⟩)) (fun ρ e => ex_idx (q := o + ax * 3) (i := ax) el23 (e _ _ rfl) (e _ _ rfl) (by omega) (by omega)) rfl rfl ?_
      refine wl_val (v := .agg #[.int .i64 (p : Int), .int .i64 (q : Int), .int .i64 0]) (fun ρ e => ex_loadN (vs := [.int .i64 (p : Int), .int .i64 (q : Int), .int .i64 0]) ty38 (e _ _ rfl) rfl (cells3 (NodesD.c0 ((O17.ro 2 rfl : (fun w => NodesD D w (.slice (some ⟨b, o, none⟩) ts.length c0) ts) _) : NodesD _ _ _ _) hlow) (NodesD.c1 ((O17.ro 2 rfl : (fun w => NodesD D w (.slice (some ⟨b, o, none⟩) ts.length c0) ts) _) : NodesD _ _ _ _) hlow) (NodesD.c2 ((O17.ro 2 rfl : (fun w => NodesD D w (.slice (some ⟨b, o, none⟩) ts.length c0) ts) _) : NodesD _ _ _ _) hlow))) rfl rfl ?_
      obtain ⟨g21, w22, r23, O24, hg25, hs26⟩ := own_alloc O17 38 ze38 rfl
      refine wl_val (v := .pointer (some ⟨g21, 0, none⟩)) (fun ρ e => r23 ρ _ _ _ _ _) rfl rfl ?_
      obtain ⟨w27, r28, O29, hs30⟩ := own_put (o := 0) (n := 3) O24 ty38 (.agg #[.int .i64 (p : Int), .int .i64 (q : Int), .int .i64 0]) [.int .i64 (p : Int), .int .i64 (q : Int), .int .i64 0] (cs' := #[.int .i64 (p : Int), .int .i64 (q : Int), .int .i64 0]) rfl rfl rfl (Nat.le_of_ble_eq_true rfl) rfl
      refine wl_none (fun ρ e => r28 ρ _ _ _ _ _ _ (e _ _ rfl) (e _ _ rfl)) rfl ?_
      refine wl_nil ?_
      refine xw_next K20 ?_
      refine cw_seq (fun FK31 K31 => ?_)
      refine cw_region ?_
      refine wl_val (v := .slice (some ⟨b, o, none⟩) ts.length c0) (fun ρ e => ex_move (e _ _ rfl)) rfl rfl ?_
      refine wl_val (v := .pointer (some ⟨g21, 0, none⟩)) (fun ρ e => ex_field (q := 0) fi38_0 (e _ _ rfl) rfl) rfl rfl ?_
      refine wl_val (v := .int .i64 (p : Int)) (fun ρ e => ex_load1 ty3 (e _ _ rfl) (O29.cell 0 0 rfl rfl)) rfl rfl ?_
      refine wl_val (v := .slice A n c) (fun ρ e => ex_move (e _ _ rfl)) rfl rfl ?_
      refine wl_call (args := [.slice (some ⟨b, o, none⟩) ts.length c0, .int .i64 (p : Int), .slice A n c]) in_80 rfl rfl rfl ?_
      obtain ⟨vsp, hAp⟩ := At.get hV (n := k) (j := p) (by omega) (by omega)
      have hzp := hAp.small hV
      have O36h := Own.hand (A := [.row (.slice A n c) 38 3 n (ncells l), .ro D (fun w => NodesD D w (.slice (some ⟨b, o, none⟩) ts.length c0) ts)]) (R := [.blk g21 38 #[.int .i64 (p : Int), .int .i64 (q : Int), .int .i64 0], .blk g3 38 #[.int .i64 (ax : Int), .int .i64 (bx : Int), .int .i64 0]]) (O29.re [2, 3, 0, 1] rfl : Own Z w0 w27 [.row (.slice A n c) 38 3 n (ncells l), .ro D (fun w => NodesD D w (.slice (some ⟨b, o, none⟩) ts.length c0) ts), .blk g21 38 #[.int .i64 (p : Int), .int .i64 (q : Int), .int .i64 0], .blk g3 38 #[.int .i64 (ax : Int), .int .i64 (bx : Int), .int .i64 0]])
      refine (rlist_ hle hAp _ _ _ _ _ _ l O36h (by omega)).mono ?_
      rintro _ w34 ⟨A32, c33, rfl, h35⟩
      have O36 : Own Z w0 w34 [.row (.slice A32 (n + Tr.size (trF ts k p)) c33) 38 3 (n + Tr.size (trF ts k p)) (ncells (l ++ post (trF ts k p) n)), .ro D (fun w => NodesD D w (.slice (some ⟨b, o, none⟩) ts.length c0) ts), .blk g21 38 #[.int .i64 (p : Int), .int .i64 (q : Int), .int .i64 0], .blk g3 38 #[.int .i64 (ax : Int), .int .i64 (bx : Int), .int .i64 0]] := Own.frame (A := [.row (.slice A n c) 38 3 n (ncells l), .ro D (fun w => NodesD D w (.slice (some ⟨b, o, none⟩) ts.length c0) ts)]) (R := [.blk g21 38 #[.int .i64 (p : Int), .int .i64 (q : Int), .int .i64 0], .blk g3 38 #[.int .i64 (ax : Int), .int .i64 (bx : Int), .int .i64 0]]) (O29.re [2, 3, 0, 1] rfl : Own Z w0 w27 [.row (.slice A n c) 38 3 n (ncells l), .ro D (fun w => NodesD D w (.slice (some ⟨b, o, none⟩) ts.length c0) ts), .blk g21 38 #[.int .i64 (p : Int), .int .i64 (q : Int), .int .i64 0], .blk g3 38 #[.int .i64 (ax : Int), .int .i64 (bx : Int), .int .i64 0]]) h35
      refine ⟨_, rfl, ?_⟩
      refine wl_val (v := .slice A32 (n + Tr.size (trF ts k p)) c33) (fun ρ e => ex_assign (e _ _ rfl)) rfl rfl ?_
      refine wl_nil ?_
      refine xw_next K31 ?_
      refine cw_seq (fun FK37 K37 => ?_)
      refine cw_region ?_
      refine wl_val (v := .slice A32 (n + Tr.size (trF ts k p)) c33) (fun ρ e => ex_move (e _ _ rfl)) rfl rfl ?_
      refine wl_val (v := .int .i64 (((n + Tr.size (trF ts k p)) : Nat) : Int)) (fun ρ e => ex_len el23 (e _ _ rfl)) rfl rfl ?_
      refine wl_val (v := .int .i64 (((n + Tr.size (trF ts k p)) - 1 : Nat) : Int)) (fun ρ e => ex_arith (k := .i64) (u := (((n + Tr.size (trF ts k p)) : Nat) : Int)) (v := 1) (e _ _ rfl) (e _ _ rfl) (congrArg some ((congrArg _ (show _ = (((n + Tr.size (trF ts k p)) - 1 : Nat) : Int) by omega)).trans (wrap_in (by omega) (by omega))))) rfl rfl ?_
      refine wl_val (v := .int .i64 (((n + Tr.size (trF ts k p)) - 1 : Nat) : Int)) (fun ρ e => ex_assign (e _ _ rfl)) rfl rfl ?_
      refine wl_nil ?_
      refine xw_next K37 ?_
      refine cw_seq (fun FK38 K38 => ?_)
      refine cw_region ?_
      refine wl_val (v := .slice (some ⟨b, o, none⟩) ts.length c0) (fun ρ e => ex_move (e _ _ rfl)) rfl rfl ?_
      refine wl_val (v := .pointer (some ⟨g21, 1, none⟩)) (fun ρ e => ex_field (q := 1) fi38_1 (e _ _ rfl) rfl) rfl rfl ?_
      refine wl_val (v := .int .i64 (q : Int)) (fun ρ e => ex_load1 ty3 (e _ _ rfl) (O36.cell 2 1 rfl rfl)) rfl rfl ?_
      refine wl_val (v := .slice A32 (n + Tr.size (trF ts k p)) c33) (fun ρ e => ex_move (e _ _ rfl)) rfl rfl ?_
      refine wl_call (args := [.slice (some ⟨b, o, none⟩) ts.length c0, .int .i64 (q : Int), .slice A32 (n + Tr.size (trF ts k p)) c33]) in_80 rfl rfl rfl ?_
      obtain ⟨vsq, hAq⟩ := At.get hV (n := k) (j := q) (by omega) (by omega)
      have hzq := hAq.small hV
      have O43h := Own.hand (A := [.row (.slice A32 (n + Tr.size (trF ts k p)) c33) 38 3 (n + Tr.size (trF ts k p)) (ncells (l ++ post (trF ts k p) n)), .ro D (fun w => NodesD D w (.slice (some ⟨b, o, none⟩) ts.length c0) ts)]) (R := [.blk g21 38 #[.int .i64 (p : Int), .int .i64 (q : Int), .int .i64 0], .blk g3 38 #[.int .i64 (ax : Int), .int .i64 (bx : Int), .int .i64 0]]) O36
      refine (rlist_ hle hAq _ _ _ _ _ _ (l ++ post (trF ts k p) n) O43h (by omega)).mono ?_
      rintro _ w41 ⟨A39, c40, rfl, h42⟩
      have O43 : Own Z w0 w41 [.row (.slice A39 ((n + Tr.size (trF ts k p)) + Tr.size (trF ts k q)) c40) 38 3 ((n + Tr.size (trF ts k p)) + Tr.size (trF ts k q)) (ncells ((l ++ post (trF ts k p) n) ++ post (trF ts k q) (n + Tr.size (trF ts k p)))), .ro D (fun w => NodesD D w (.slice (some ⟨b, o, none⟩) ts.length c0) ts), .blk g21 38 #[.int .i64 (p : Int), .int .i64 (q : Int), .int .i64 0], .blk g3 38 #[.int .i64 (ax : Int), .int .i64 (bx : Int), .int .i64 0]] := Own.frame (A := [.row (.slice A32 (n + Tr.size (trF ts k p)) c33) 38 3 (n + Tr.size (trF ts k p)) (ncells (l ++ post (trF ts k p) n)), .ro D (fun w => NodesD D w (.slice (some ⟨b, o, none⟩) ts.length c0) ts)]) (R := [.blk g21 38 #[.int .i64 (p : Int), .int .i64 (q : Int), .int .i64 0], .blk g3 38 #[.int .i64 (ax : Int), .int .i64 (bx : Int), .int .i64 0]]) O36 h42
      refine ⟨_, rfl, ?_⟩
      refine wl_val (v := .slice A39 ((n + Tr.size (trF ts k p)) + Tr.size (trF ts k q)) c40) (fun ρ e => ex_assign (e _ _ rfl)) rfl rfl ?_
      refine wl_nil ?_
      refine xw_next K38 ?_
      refine cw_seq (fun FK44 K44 => ?_)
      refine cw_region ?_
      refine wl_val (v := .slice A39 ((n + Tr.size (trF ts k p)) + Tr.size (trF ts k q)) c40) (fun ρ e => ex_move (e _ _ rfl)) rfl rfl ?_
      refine wl_val (v := .int .i64 ((((n + Tr.size (trF ts k p)) + Tr.size (trF ts k q)) : Nat) : Int)) (fun ρ e => ex_len el23 (e _ _ rfl)) rfl rfl ?_
      refine wl_val (v := .int .i64 ((((n + Tr.size (trF ts k p)) + Tr.size (trF ts k q)) - 1 : Nat) : Int)) (fun ρ e => ex_arith (k := .i64) (u := ((((n + Tr.size (trF ts k p)) + Tr.size (trF ts k q)) : Nat) : Int)) (v := 1) (e _ _ rfl) (e _ _ rfl) (congrArg some ((congrArg _ (show _ = ((((n + Tr.size (trF ts k p)) + Tr.size (trF ts k q)) - 1 : Nat) : Int) by omega)).trans (wrap_in (by omega) (by omega))))) rfl rfl ?_
      refine wl_val (v := .int .i64 ((((n + Tr.size (trF ts k p)) + Tr.size (trF ts k q)) - 1 : Nat) : Int)) (fun ρ e => ex_assign (e _ _ rfl)) rfl rfl ?_
      refine wl_nil ?_
      refine xw_next K44 ?_
      refine cw_seq (fun FK45 K45 => ?_)
      refine cw_region ?_
      refine wl_val (v := .slice (some ⟨b, o, none⟩) ts.length c0) (fun ρ e => ex_move (e _ _ rfl)) rfl rfl ?_
      refine wl_val (v := .pointer (some ⟨g3, 1, none⟩)) (fun ρ e => ex_field (q := 1) fi38_1 (e _ _ rfl) rfl) rfl rfl ?_
      refine wl_val (v := .int .i64 (bx : Int)) (fun ρ e => ex_load1 ty3 (e _ _ rfl) (O43.cell 3 1 rfl rfl)) rfl rfl ?_
      refine wl_val (v := .slice A39 ((n + Tr.size (trF ts k p)) + Tr.size (trF ts k q)) c40) (fun ρ e => ex_move (e _ _ rfl)) rfl rfl ?_
      refine wl_call (args := [.slice (some ⟨b, o, none⟩) ts.length c0, .int .i64 (bx : Int), .slice A39 ((n + Tr.size (trF ts k p)) + Tr.size (trF ts k q)) c40]) in_80 rfl rfl rfl ?_
      obtain ⟨vsbx, hAbx⟩ := At.get hV (n := k) (j := bx) (by omega) (by omega)
      have hzbx := hAbx.small hV
      have O50h := Own.hand (A := [.row (.slice A39 ((n + Tr.size (trF ts k p)) + Tr.size (trF ts k q)) c40) 38 3 ((n + Tr.size (trF ts k p)) + Tr.size (trF ts k q)) (ncells ((l ++ post (trF ts k p) n) ++ post (trF ts k q) (n + Tr.size (trF ts k p)))), .ro D (fun w => NodesD D w (.slice (some ⟨b, o, none⟩) ts.length c0) ts)]) (R := [.blk g21 38 #[.int .i64 (p : Int), .int .i64 (q : Int), .int .i64 0], .blk g3 38 #[.int .i64 (ax : Int), .int .i64 (bx : Int), .int .i64 0]]) O43
      refine (rlist_ hle hAbx _ _ _ _ _ _ ((l ++ post (trF ts k p) n) ++ post (trF ts k q) (n + Tr.size (trF ts k p))) O50h (by omega)).mono ?_
      rintro _ w48 ⟨A46, c47, rfl, h49⟩
      have O50 : Own Z w0 w48 [.row (.slice A46 (((n + Tr.size (trF ts k p)) + Tr.size (trF ts k q)) + Tr.size (trF ts k bx)) c47) 38 3 (((n + Tr.size (trF ts k p)) + Tr.size (trF ts k q)) + Tr.size (trF ts k bx)) (ncells (((l ++ post (trF ts k p) n) ++ post (trF ts k q) (n + Tr.size (trF ts k p))) ++ post (trF ts k bx) ((n + Tr.size (trF ts k p)) + Tr.size (trF ts k q)))), .ro D (fun w => NodesD D w (.slice (some ⟨b, o, none⟩) ts.length c0) ts), .blk g21 38 #[.int .i64 (p : Int), .int .i64 (q : Int), .int .i64 0], .blk g3 38 #[.int .i64 (ax : Int), .int .i64 (bx : Int), .int .i64 0]] := Own.frame (A := [.row (.slice A39 ((n + Tr.size (trF ts k p)) + Tr.size (trF ts k q)) c40) 38 3 ((n + Tr.size (trF ts k p)) + Tr.size (trF ts k q)) (ncells ((l ++ post (trF ts k p) n) ++ post (trF ts k q) (n + Tr.size (trF ts k p)))), .ro D (fun w => NodesD D w (.slice (some ⟨b, o, none⟩) ts.length c0) ts)]) (R := [.blk g21 38 #[.int .i64 (p : Int), .int .i64 (q : Int), .int .i64 0], .blk g3 38 #[.int .i64 (ax : Int), .int .i64 (bx : Int), .int .i64 0]]) O43 h49
      refine ⟨_, rfl, ?_⟩
      refine wl_val (v := .slice A46 (((n + Tr.size (trF ts k p)) + Tr.size (trF ts k q)) + Tr.size (trF ts k bx)) c47) (fun ρ e => ex_assign (e _ _ rfl)) rfl rfl ?_
      refine wl_nil ?_
      refine xw_next K45 ?_
      refine cw_seq (fun FK51 K51 => ?_)
      refine cw_region ?_
      refine wl_val (v := .slice A46 (((n + Tr.size (trF ts k p)) + Tr.size (trF ts k q)) + Tr.size (trF ts k bx)) c47) (fun ρ e => ex_move (e _ _ rfl)) rfl rfl ?_
      refine wl_val (v := .int .i64 ((((n + Tr.size (trF ts k p)) + Tr.size (trF ts k q)) - 1 : Nat) : Int)) (fun ρ e => ex_move (e _ _ rfl)) rfl rfl ?_
      refine wl_val (v := .slice A46 (((n + Tr.size (trF ts k p)) + Tr.size (trF ts k q)) + Tr.size (trF ts k bx)) c47) (fun ρ e => ex_move (e _ _ rfl)) rfl rfl ?_
      refine wl_val (v := .int .i64 (((((n + Tr.size (trF ts k p)) + Tr.size (trF ts k q)) + Tr.size (trF ts k bx)) : Nat) : Int)) (fun ρ e => ex_len el23 (e _ _ rfl)) rfl rfl ?_
      refine wl_val (v := .int .i64 (((((n + Tr.size (trF ts k p)) + Tr.size (trF ts k q)) + Tr.size (trF ts k bx)) - 1 : Nat) : Int)) (fun ρ e => ex_arith (k := .i64) (u := (((((n + Tr.size (trF ts k p)) + Tr.size (trF ts k q)) + Tr.size (trF ts k bx)) : Nat) : Int)) (v := 1) (e _ _ rfl) (e _ _ rfl) (congrArg some ((congrArg _ (show _ = (((((n + Tr.size (trF ts k p)) + Tr.size (trF ts k q)) + Tr.size (trF ts k bx)) - 1 : Nat) : Int) by omega)).trans (wrap_in (by omega) (by omega))))) rfl rfl ?_
      refine wl_val (v := .agg #[.int .i64 ((((n + Tr.size (trF ts k p)) + Tr.size (trF ts k q)) - 1 : Nat) : Int), .int .i64 (((((n + Tr.size (trF ts k p)) + Tr.size (trF ts k q)) + Tr.size (trF ts k bx)) - 1 : Nat) : Int), .int .i64 0]) (fun ρ e => ex_build (cells := #[.int .i64 ((((n + Tr.size (trF ts k p)) + Tr.size (trF ts k q)) - 1 : Nat) : Int), .int .i64 (((((n + Tr.size (trF ts k p)) + Tr.size (trF ts k q)) + Tr.size (trF ts k bx)) - 1 : Nat) : Int), .int .i64 0]) st38 (e.parts rfl) rfl) rfl rfl ?_
      obtain ⟨g52, w53, r54, O55, hg56, hs57⟩ := own_slice O50 el23 ze38 1 [(0, .agg #[.int .i64 ((((n + Tr.size (trF ts k p)) + Tr.size (trF ts k q)) - 1 : Nat) : Int), .int .i64 (((((n + Tr.size (trF ts k p)) + Tr.size (trF ts k q)) + Tr.size (trF ts k bx)) - 1 : Nat) : Int), .int .i64 0])] (cs := #[.int .i64 ((((n + Tr.size (trF ts k p)) + Tr.size (trF ts k q)) - 1 : Nat) : Int), .int .i64 (((((n + Tr.size (trF ts k p)) + Tr.size (trF ts k q)) + Tr.size (trF ts k bx)) - 1 : Nat) : Int), .int .i64 0]) (by decide) (by kernel_rfl)
      refine wl_val (v := .slice (some ⟨g52, 0, none⟩) 1 1) (fun ρ e => r54 ρ _ _ _ _ _ _ (e.parts rfl)) rfl rfl ?_
      obtain ⟨A58, c59, w60, r61, O62, hz63, hc64⟩ := own_app1 (O55.re [1, 0, 2, 3, 4] rfl : Own Z w0 w53 [.row (.slice A46 (((n + Tr.size (trF ts k p)) + Tr.size (trF ts k q)) + Tr.size (trF ts k bx)) c47) 38 3 (((n + Tr.size (trF ts k p)) + Tr.size (trF ts k q)) + Tr.size (trF ts k bx)) (ncells (((l ++ post (trF ts k p) n) ++ post (trF ts k q) (n + Tr.size (trF ts k p))) ++ post (trF ts k bx) ((n + Tr.size (trF ts k p)) + Tr.size (trF ts k q)))), .blk g52 38 #[.int .i64 ((((n + Tr.size (trF ts k p)) + Tr.size (trF ts k q)) - 1 : Nat) : Int), .int .i64 (((((n + Tr.size (trF ts k p)) + Tr.size (trF ts k q)) + Tr.size (trF ts k bx)) - 1 : Nat) : Int), .int .i64 0], .ro D (fun w => NodesD D w (.slice (some ⟨b, o, none⟩) ts.length c0) ts), .blk g21 38 #[.int .i64 (p : Int), .int .i64 (q : Int), .int .i64 0], .blk g3 38 #[.int .i64 (ax : Int), .int .i64 (bx : Int), .int .i64 0]]) ap23 ((O55.re [1, 0, 2, 3, 4] rfl : Own Z w0 w53 [.row (.slice A46 (((n + Tr.size (trF ts k p)) + Tr.size (trF ts k q)) + Tr.size (trF ts k bx)) c47) 38 3 (((n + Tr.size (trF ts k p)) + Tr.size (trF ts k q)) + Tr.size (trF ts k bx)) (ncells (((l ++ post (trF ts k p) n) ++ post (trF ts k q) (n + Tr.size (trF ts k p))) ++ post (trF ts k bx) ((n + Tr.size (trF ts k p)) + Tr.size (trF ts k q)))), .blk g52 38 #[.int .i64 ((((n + Tr.size (trF ts k p)) + Tr.size (trF ts k q)) - 1 : Nat) : Int), .int .i64 (((((n + Tr.size (trF ts k p)) + Tr.size (trF ts k q)) + Tr.size (trF ts k bx)) - 1 : Nat) : Int), .int .i64 0], .ro D (fun w => NodesD D w (.slice (some ⟨b, o, none⟩) ts.length c0) ts), .blk g21 38 #[.int .i64 (p : Int), .int .i64 (q : Int), .int .i64 0], .blk g3 38 #[.int .i64 (ax : Int), .int .i64 (bx : Int), .int .i64 0]]).blk 1 rfl) (cells := [.int .i64 ((((n + Tr.size (trF ts k p)) + Tr.size (trF ts k q)) - 1 : Nat) : Int), .int .i64 (((((n + Tr.size (trF ts k p)) + Tr.size (trF ts k q)) + Tr.size (trF ts k bx)) - 1 : Nat) : Int), .int .i64 0]) rfl rfl (by omega) (by omega) (ys := (ncells ((((l ++ post (trF ts k p) n) ++ post (trF ts k q) (n + Tr.size (trF ts k p))) ++ post (trF ts k bx) ((n + Tr.size (trF ts k p)) + Tr.size (trF ts k q))) ++ [(VN.mk ((((n + Tr.size (trF ts k p)) + Tr.size (trF ts k q)) - 1 : Nat) : Int) (((((n + Tr.size (trF ts k p)) + Tr.size (trF ts k q)) + Tr.size (trF ts k bx)) - 1 : Nat) : Int) 0)]))) (ncells_snoc (((l ++ post (trF ts k p) n) ++ post (trF ts k q) (n + Tr.size (trF ts k p))) ++ post (trF ts k bx) ((n + Tr.size (trF ts k p)) + Tr.size (trF ts k q))) (VN.mk ((((n + Tr.size (trF ts k p)) + Tr.size (trF ts k q)) - 1 : Nat) : Int) (((((n + Tr.size (trF ts k p)) + Tr.size (trF ts k q)) + Tr.size (trF ts k bx)) - 1 : Nat) : Int) 0))
      refine wl_val (v := .slice A58 ((((n + Tr.size (trF ts k p)) + Tr.size (trF ts k q)) + Tr.size (trF ts k bx)) + 1) c59) (fun ρ e => r61 ρ _ _ _ _ _ _ _ (e _ _ rfl) (e _ _ rfl)) rfl rfl ?_
      refine wl_val (v := .slice A58 ((((n + Tr.size (trF ts k p)) + Tr.size (trF ts k q)) + Tr.size (trF ts k bx)) + 1) c59) (fun ρ e => ex_assign (e _ _ rfl)) rfl rfl ?_
      refine wl_nil ?_
      refine xw_next K51 ?_
      refine cw_seq (fun FK65 K65 => ?_)
      refine cw_region ?_
      refine wl_val (v := .slice A58 ((((n + Tr.size (trF ts k p)) + Tr.size (trF ts k q)) + Tr.size (trF ts k bx)) + 1) c59) (fun ρ e => ex_move (e _ _ rfl)) rfl rfl ?_
      refine wl_val (v := .int .i64 (((n + Tr.size (trF ts k p)) - 1 : Nat) : Int)) (fun ρ e => ex_move (e _ _ rfl)) rfl rfl ?_
      refine wl_val (v := .slice A58 ((((n + Tr.size (trF ts k p)) + Tr.size (trF ts k q)) + Tr.size (trF ts k bx)) + 1) c59) (fun ρ e => ex_move (e _ _ rfl)) rfl rfl ?_
      refine wl_val (v := .int .i64 (((((n + Tr.size (trF ts k p)) + Tr.size (trF ts k q)) + Tr.size (trF ts k bx)) + 1 : Nat) : Int)) (fun ρ e => ex_len el23 (e _ _ rfl)) rfl rfl ?_
      refine wl_val (v := .int .i64 (((((n + Tr.size (trF ts k p)) + Tr.size (trF ts k q)) + Tr.size (trF ts k bx)) + 1 - 1 : Nat) : Int)) (fun ρ e => ex_arith (k := .i64) (u := (((((n + Tr.size (trF ts k p)) + Tr.size (trF ts k q)) + Tr.size (trF ts k bx)) + 1 : Nat) : Int)) (v := 1) (e _ _ rfl) (e _ _ rfl) (congrArg some ((congrArg _ (show _ = (((((n + Tr.size (trF ts k p)) + Tr.size (trF ts k q)) + Tr.size (trF ts k bx)) + 1 - 1 : Nat) : Int) by omega)).trans (wrap_in (by omega) (by omega))))) rfl rfl ?_
      refine wl_val (v := .agg #[.int .i64 (((n + Tr.size (trF ts k p)) - 1 : Nat) : Int), .int .i64 (((((n + Tr.size (trF ts k p)) + Tr.size (trF ts k q)) + Tr.size (trF ts k bx)) + 1 - 1 : Nat) : Int), .int .i64 0]) (fun ρ e => ex_build (cells := #[.int .i64 (((n + Tr.size (trF ts k p)) - 1 : Nat) : Int), .int .i64 (((((n + Tr.size (trF ts k p)) + Tr.size (trF ts k q)) + Tr.size (trF ts k bx)) + 1 - 1 : Nat) : Int), .int .i64 0]) st38 (e.parts rfl) rfl) rfl rfl ?_
      obtain ⟨g66, w67, r68, O69, hg70, hs71⟩ := own_slice O62 el23 ze38 1 [(0, .agg #[.int .i64 (((n + Tr.size (trF ts k p)) - 1 : Nat) : Int), .int .i64 (((((n + Tr.size (trF ts k p)) + Tr.size (trF ts k q)) + Tr.size (trF ts k bx)) + 1 - 1 : Nat) : Int), .int .i64 0])] (cs := #[.int .i64 (((n + Tr.size (trF ts k p)) - 1 : Nat) : Int), .int .i64 (((((n + Tr.size (trF ts k p)) + Tr.size (trF ts k q)) + Tr.size (trF ts k bx)) + 1 - 1 : Nat) : Int), .int .i64 0]) (by decide) (by kernel_rfl)
      refine wl_val (v := .slice (some ⟨g66, 0, none⟩) 1 1) (fun ρ e => r68 ρ _ _ _ _ _ _ (e.parts rfl)) rfl rfl ?_
      obtain ⟨A72, c73, w74, r75, O76, hz77, hc78⟩ := own_app1 (O69.re [1, 0, 2, 3, 4, 5] rfl : Own Z w0 w67 [.row (.slice A58 ((((n + Tr.size (trF ts k p)) + Tr.size (trF ts k q)) + Tr.size (trF ts k bx)) + 1) c59) 38 3 ((((n + Tr.size (trF ts k p)) + Tr.size (trF ts k q)) + Tr.size (trF ts k bx)) + 1) (ncells ((((l ++ post (trF ts k p) n) ++ post (trF ts k q) (n + Tr.size (trF ts k p))) ++ post (trF ts k bx) ((n + Tr.size (trF ts k p)) + Tr.size (trF ts k q))) ++ [(VN.mk ((((n + Tr.size (trF ts k p)) + Tr.size (trF ts k q)) - 1 : Nat) : Int) (((((n + Tr.size (trF ts k p)) + Tr.size (trF ts k q)) + Tr.size (trF ts k bx)) - 1 : Nat) : Int) 0)])), .blk g66 38 #[.int .i64 (((n + Tr.size (trF ts k p)) - 1 : Nat) : Int), .int .i64 (((((n + Tr.size (trF ts k p)) + Tr.size (trF ts k q)) + Tr.size (trF ts k bx)) + 1 - 1 : Nat) : Int), .int .i64 0], .blk g52 38 #[.int .i64 ((((n + Tr.size (trF ts k p)) + Tr.size (trF ts k q)) - 1 : Nat) : Int), .int .i64 (((((n + Tr.size (trF ts k p)) + Tr.size (trF ts k q)) + Tr.size (trF ts k bx)) - 1 : Nat) : Int), .int .i64 0], .ro D (fun w => NodesD D w (.slice (some ⟨b, o, none⟩) ts.length c0) ts), .blk g21 38 #[.int .i64 (p : Int), .int .i64 (q : Int), .int .i64 0], .blk g3 38 #[.int .i64 (ax : Int), .int .i64 (bx : Int), .int .i64 0]]) ap23 ((O69.re [1, 0, 2, 3, 4, 5] rfl : Own Z w0 w67 [.row (.slice A58 ((((n + Tr.size (trF ts k p)) + Tr.size (trF ts k q)) + Tr.size (trF ts k bx)) + 1) c59) 38 3 ((((n + Tr.size (trF ts k p)) + Tr.size (trF ts k q)) + Tr.size (trF ts k bx)) + 1) (ncells ((((l ++ post (trF ts k p) n) ++ post (trF ts k q) (n + Tr.size (trF ts k p))) ++ post (trF ts k bx) ((n + Tr.size (trF ts k p)) + Tr.size (trF ts k q))) ++ [(VN.mk ((((n + Tr.size (trF ts k p)) + Tr.size (trF ts k q)) - 1 : Nat) : Int) (((((n + Tr.size (trF ts k p)) + Tr.size (trF ts k q)) + Tr.size (trF ts k bx)) - 1 : Nat) : Int) 0)])), .blk g66 38 #[.int .i64 (((n + Tr.size (trF ts k p)) - 1 : Nat) : Int), .int .i64 (((((n + Tr.size (trF ts k p)) + Tr.size (trF ts k q)) + Tr.size (trF ts k bx)) + 1 - 1 : Nat) : Int), .int .i64 0], .blk g52 38 #[.int .i64 ((((n + Tr.size (trF ts k p)) + Tr.size (trF ts k q)) - 1 : Nat) : Int), .int .i64 (((((n + Tr.size (trF ts k p)) + Tr.size (trF ts k q)) + Tr.size (trF ts k bx)) - 1 : Nat) : Int), .int .i64 0], .ro D (fun w => NodesD D w (.slice (some ⟨b, o, none⟩) ts.length c0) ts), .blk g21 38 #[.int .i64 (p : Int), .int .i64 (q : Int), .int .i64 0], .blk g3 38 #[.int .i64 (ax : Int), .int .i64 (bx : Int), .int .i64 0]]).blk 1 rfl) (cells := [.int .i64 (((n + Tr.size (trF ts k p)) - 1 : Nat) : Int), .int .i64 (((((n + Tr.size (trF ts k p)) + Tr.size (trF ts k q)) + Tr.size (trF ts k bx)) + 1 - 1 : Nat) : Int), .int .i64 0]) rfl rfl (by omega) (by omega) (ys := (ncells (((((l ++ post (trF ts k p) n) ++ post (trF ts k q) (n + Tr.size (trF ts k p))) ++ post (trF ts k bx) ((n + Tr.size (trF ts k p)) + Tr.size (trF ts k q))) ++ [(VN.mk ((((n + Tr.size (trF ts k p)) + Tr.size (trF ts k q)) - 1 : Nat) : Int) (((((n + Tr.size (trF ts k p)) + Tr.size (trF ts k q)) + Tr.size (trF ts k bx)) - 1 : Nat) : Int) 0)]) ++ [(VN.mk (((n + Tr.size (trF ts k p)) - 1 : Nat) : Int) (((((n + Tr.size (trF ts k p)) + Tr.size (trF ts k q)) + Tr.size (trF ts k bx)) + 1 - 1 : Nat) : Int) 0)]))) (ncells_snoc ((((l ++ post (trF ts k p) n) ++ post (trF ts k q) (n + Tr.size (trF ts k p))) ++ post (trF ts k bx) ((n + Tr.size (trF ts k p)) + Tr.size (trF ts k q))) ++ [(VN.mk ((((n + Tr.size (trF ts k p)) + Tr.size (trF ts k q)) - 1 : Nat) : Int) (((((n + Tr.size (trF ts k p)) + Tr.size (trF ts k q)) + Tr.size (trF ts k bx)) - 1 : Nat) : Int) 0)]) (VN.mk (((n + Tr.size (trF ts k p)) - 1 : Nat) : Int) (((((n + Tr.size (trF ts k p)) + Tr.size (trF ts k q)) + Tr.size (trF ts k bx)) + 1 - 1 : Nat) : Int) 0))
      refine wl_val (v := .slice A72 ((((n + Tr.size (trF ts k p)) + Tr.size (trF ts k q)) + Tr.size (trF ts k bx)) + 1 + 1) c73) (fun ρ e => r75 ρ _ _ _ _ _ _ _ (e _ _ rfl) (e _ _ rfl)) rfl rfl ?_
      refine wl_val (v := .slice A72 ((((n + Tr.size (trF ts k p)) + Tr.size (trF ts k q)) + Tr.size (trF ts k bx)) + 1 + 1) c73) (fun ρ e => ex_assign (e _ _ rfl)) rfl rfl ?_
      refine wl_nil ?_
      refine xw_next K65 ?_
      refine cw_ret ?_
      refine xw_past (by intro h; cases h) ?_
      refine xw_ret (v := .slice A72 ((((n + Tr.size (trF ts k p)) + Tr.size (trF ts k q)) + Tr.size (trF ts k bx)) + 1 + 1) c73) (fun T hT => res1 rfl T _ (hT 10 _ rfl)) ?_
      have hn : (((n + Tr.size (trF ts k p)) + Tr.size (trF ts k q)) + Tr.size (trF ts k bx)) + 1 + 1 = n + Tr.size (chT ts 1 at_ (k + 1) at_) := by rw [hT]; simp only [Tr.size] <;> omega
      have hl : (((((l ++ post (trF ts k p) n) ++ post (trF ts k q) (n + Tr.size (trF ts k p))) ++ post (trF ts k bx) ((n + Tr.size (trF ts k p)) + Tr.size (trF ts k q))) ++ [(VN.mk ((((n + Tr.size (trF ts k p)) + Tr.size (trF ts k q)) - 1 : Nat) : Int) (((((n + Tr.size (trF ts k p)) + Tr.size (trF ts k q)) + Tr.size (trF ts k bx)) - 1 : Nat) : Int) 0)]) ++ [(VN.mk (((n + Tr.size (trF ts k p)) - 1 : Nat) : Int) (((((n + Tr.size (trF ts k p)) + Tr.size (trF ts k q)) + Tr.size (trF ts k bx)) + 1 - 1 : Nat) : Int) 0)]) = l ++ post (chT ts 1 at_ (k + 1) at_) n := by rw [hT]; simp [post, Tr.size, Nat.add_assoc]
      have hO := (O76.re [0, 3] rfl : Own Z w0 w74 [.row (.slice A72 ((((n + Tr.size (trF ts k p)) + Tr.size (trF ts k q)) + Tr.size (trF ts k bx)) + 1 + 1) c73) 38 3 ((((n + Tr.size (trF ts k p)) + Tr.size (trF ts k q)) + Tr.size (trF ts k bx)) + 1 + 1) (ncells (((((l ++ post (trF ts k p) n) ++ post (trF ts k q) (n + Tr.size (trF ts k p))) ++ post (trF ts k bx) ((n + Tr.size (trF ts k p)) + Tr.size (trF ts k q))) ++ [(VN.mk ((((n + Tr.size (trF ts k p)) + Tr.size (trF ts k q)) - 1 : Nat) : Int) (((((n + Tr.size (trF ts k p)) + Tr.size (trF ts k q)) + Tr.size (trF ts k bx)) - 1 : Nat) : Int) 0)]) ++ [(VN.mk (((n + Tr.size (trF ts k p)) - 1 : Nat) : Int) (((((n + Tr.size (trF ts k p)) + Tr.size (trF ts k q)) + Tr.size (trF ts k bx)) + 1 - 1 : Nat) : Int) 0)])), .ro D (fun w => NodesD D w (.slice (some ⟨b, o, none⟩) ts.length c0) ts)])
      rw [hn, hl] at hO
      exact ⟨A72, c73, by rw [hn], hO⟩
theorem rchanged1 {ts : List VN} {D : Nat → Prop} {b o c0 at_ ax bx p q : Nat} (hV : Val ts) (hle : ts.length ≤ 255) (hat : ts[at_]? = some ⟨(ax : Int), (bx : Int), 0⟩) (hlow : ts[ax]? = some ⟨(p : Int), (q : Int), 0⟩) : ∀ (k i : Nat), i < k → i < ts.length → ∀ (Z : Bool → Nat → Prop) (w0 W : World) (A : Option Addr) (n c : Nat) (l : List VN), Own Z w0 W [.row (.slice A n c) 38 3 n (ncells l), .ro D (fun w => NodesD D w (.slice (some ⟨b, o, none⟩) ts.length c0) ts)] → n + Tr.size (chT ts 1 at_ k i) ≤ 10000 →
    Calls Tryd.prog 65 #[.slice (some ⟨b, o, none⟩) ts.length c0, .int .i64 (i : Int), .int .i64 (at_ : Int), .int .i64 1, .slice A n c] W fun e w' => ∃ A' c', e = .returned (.slice A' (n + Tr.size (chT ts 1 at_ k i)) c') ∧ Own Z w0 w' [.row (.slice A' (n + Tr.size (chT ts 1 at_ k i)) c') 38 3 (n + Tr.size (chT ts 1 at_ k i)) (ncells (l ++ post (chT ts 1 at_ k i) n)), .ro D (fun w => NodesD D w (.slice (some ⟨b, o, none⟩) ts.length c0) ts)]
  | 0, _, h, _ => absurd h (Nat.not_lt_zero _)
  | k + 1, i, hik, hi => fun Z w0 W A n c l O0 hlim => by
    have IH := rchanged1 (b := b) (o := o) (c0 := c0) (D := D) hV hle hat hlow k
    rcases hV.kind i _ (List.getElem?_eq_getElem hi) with ⟨v, hx0, h1, h2⟩ | ⟨a, b2, hx0, ha, hb, hab⟩
    · have hx : ts[i]? = some ⟨-1, -1, v⟩ := by rw [List.getElem?_eq_getElem hi, hx0]
      have hlf : lf (VN.mk (-1) (-1) v) = true := lf_leaf h1 h2
      have hT : (chT ts 1 at_ (k + 1) i) = .leaf v := chT_leaf hx h1 h2
      rw [hT] at hlim
      simp only [Tr.size] at hlim
      refine sx_enter (args := [.slice (some ⟨b, o, none⟩) ts.length c0, .int .i64 (i : Int), .int .i64 (at_ : Int), .int .i64 1, .slice A n c]) Tryd.func65 rfl rfl (by simp) ?_
      refine cw_seq (fun FK1 K1 => ?_)
      refine cw_region ?_
      refine wl_val (v := .slice none 0 0) (fun ρ e => ex_assign (e _ _ rfl)) rfl rfl ?_
      refine wl_nil ?_
      refine xw_next K1 ?_
      refine cw_seq (fun FK2 K2 => ?_)
      refine cw_region ?_
      refine wl_val (v := .slice (some ⟨b, o, none⟩) ts.length c0) (fun ρ e => ex_move (e _ _ rfl)) rfl rfl ?_
      refine wl_val (v := .int .i64 (i : Int)) (fun ρ e => ex_move (e _ _ rfl)) rfl rfl ?_
      refine wl_val (v := .pointer (some ⟨b, o + i * 3, none⟩)) (fun ρ e => ex_idx (q := o + i * 3) (i := i) el23 (e _ _ rfl) (e _ _ rfl) (by omega) (by omega)) rfl rfl ?_
      refine wl_val (v := .agg #[.int .i64 (-1), .int .i64 (-1), .int .i64 v]) (fun ρ e => ex_loadN (vs := [.int .i64 (-1), .int .i64 (-1), .int .i64 v]) ty38 (e _ _ rfl) rfl (cells3 (NodesD.c0 ((O0.ro 1 rfl : (fun w => NodesD D w (.slice (some ⟨b, o, none⟩) ts.length c0) ts) _) : NodesD _ _ _ _) hx) (NodesD.c1 ((O0.ro 1 rfl : (fun w => NodesD D w (.slice (some ⟨b, o, none⟩) ts.length c0) ts) _) : NodesD _ _ _ _) hx) (NodesD.c2 ((O0.ro 1 rfl : (fun w => NodesD D w (.slice (some ⟨b, o, none⟩) ts.length c0) ts) _) : NodesD _ _ _ _) hx))) rfl rfl ?_
      obtain ⟨g3, w4, r5, O6, hg7, hs8⟩ := own_alloc O0 38 ze38 rfl
      refine wl_val (v := .pointer (some ⟨g3, 0, none⟩)) (fun ρ e => r5 ρ _ _ _ _ _) rfl rfl ?_
      obtain ⟨w9, r10, O11, hs12⟩ := own_put (o := 0) (n := 3) O6 ty38 (.agg #[.int .i64 (-1), .int .i64 (-1), .int .i64 v]) [.int .i64 (-1), .int .i64 (-1), .int .i64 v] (cs' := #[.int .i64 (-1), .int .i64 (-1), .int .i64 v]) rfl rfl rfl (Nat.le_of_ble_eq_true rfl) rfl
      refine wl_none (fun ρ e => r10 ρ _ _ _ _ _ _ (e _ _ rfl) (e _ _ rfl)) rfl ?_
      refine wl_nil ?_
      refine xw_next K2 ?_
      refine cw_seq (fun FK13 K13 => ?_)
      refine cw_seq (fun FK14 K14 => ?_)
      refine cw_region ?_
      refine wl_val (v := .agg #[.int .i64 (-1), .int .i64 (-1), .int .i64 v]) (fun ρ e => ex_loadN (vs := [.int .i64 (-1), .int .i64 (-1), .int .i64 v]) ty38 (e _ _ rfl) rfl (O11.cells 0 0 rfl rfl)) rfl rfl ?_
      refine wl_call (args := [.agg #[.int .i64 (-1), .int .i64 (-1), .int .i64 v]]) in_72 rfl rfl rfl ?_
      refine (rleaf_ (VN.mk (-1) (-1) v) (W := w9)).mono ?_
      rintro _ w15 ⟨rfl, hb16⟩
      have O17 : Own Z w0 w15 [.blk g3 38 #[.int .i64 (-1), .int .i64 (-1), .int .i64 v], .row (.slice A n c) 38 3 n (ncells l), .ro D (fun w => NodesD D w (.slice (some ⟨b, o, none⟩) ts.length c0) ts)] := O11.below hb16
      refine ⟨_, rfl, ?_⟩
      refine wl_nil ?_
      refine xw_next K14 ?_
      refine cw_true (congrArg (fun b => some (Value.bool b)) hlf) ?_
      refine cw_seq (fun FK18 K18 => ?_)
      refine cw_region ?_
      refine wl_val (v := .slice A n c) (fun ρ e => ex_move (e _ _ rfl)) rfl rfl ?_
      refine wl_val (v := .agg #[.int .i64 (-1), .int .i64 (-1), .int .i64 v]) (fun ρ e => ex_loadN (vs := [.int .i64 (-1), .int .i64 (-1), .int .i64 v]) ty38 (e _ _ rfl) rfl (O17.cells 0 0 rfl rfl)) rfl rfl ?_
      obtain ⟨g19, w20, r21, O22, hg23, hs24⟩ := own_slice O17 el23 ze38 1 [(0, .agg #[.int .i64 (-1), .int .i64 (-1), .int .i64 v])] (cs := #[.int .i64 (-1), .int .i64 (-1), .int .i64 v]) (by decide) (by kernel_rfl)
      refine wl_val (v := .slice (some ⟨g19, 0, none⟩) 1 1) (fun ρ e => r21 ρ _ _ _ _ _ _ (e.parts rfl)) rfl rfl ?_
      obtain ⟨A25, c26, w27, r28, O29, hz30, hc31⟩ := own_app1 (O22.re [2, 0, 1, 3] rfl : Own Z w0 w20 [.row (.slice A n c) 38 3 n (ncells l), .blk g19 38 #[.int .i64 (-1), .int .i64 (-1), .int .i64 v], .blk g3 38 #[.int .i64 (-1), .int .i64 (-1), .int .i64 v], .ro D (fun w => NodesD D w (.slice (some ⟨b, o, none⟩) ts.length c0) ts)]) ap23 ((O22.re [2, 0, 1, 3] rfl : Own Z w0 w20 [.row (.slice A n c) 38 3 n (ncells l), .blk g19 38 #[.int .i64 (-1), .int .i64 (-1), .int .i64 v], .blk g3 38 #[.int .i64 (-1), .int .i64 (-1), .int .i64 v], .ro D (fun w => NodesD D w (.slice (some ⟨b, o, none⟩) ts.length c0) ts)]).blk 1 rfl) (cells := [.int .i64 (-1), .int .i64 (-1), .int .i64 v]) rfl rfl (by omega) (by omega) (ys := (ncells (l ++ [(VN.mk (-1) (-1) v)]))) (ncells_snoc l (VN.mk (-1) (-1) v))
      refine wl_val (v := .slice A25 (n + 1) c26) (fun ρ e => r28 ρ _ _ _ _ _ _ _ (e _ _ rfl) (e _ _ rfl)) rfl rfl ?_
      refine wl_val (v := .slice A25 (n + 1) c26) (fun ρ e => ex_assign (e _ _ rfl)) rfl rfl ?_
      refine wl_nil ?_
      refine xw_next K18 ?_
      refine cw_ret ?_
      refine xw_past (by intro h; cases h) ?_
      refine xw_ret (v := .slice A25 (n + 1) c26) (fun T hT => res1 rfl T _ (hT 10 _ rfl)) ?_
      have hn : n + 1 = n + Tr.size (chT ts 1 at_ (k + 1) i) := by rw [hT]; simp only [Tr.size] <;> omega
      have hl : (l ++ [(VN.mk (-1) (-1) v)]) = l ++ post (chT ts 1 at_ (k + 1) i) n := by rw [hT]; simp [post, Tr.size, Nat.add_assoc]
      have hO := (O29.re [0, 3] rfl : Own Z w0 w27 [.row (.slice A25 (n + 1) c26) 38 3 (n + 1) (ncells (l ++ [(VN.mk (-1) (-1) v)])), .ro D (fun w => NodesD D w (.slice (some ⟨b, o, none⟩) ts.length c0) ts)])
      rw [hn, hl] at hO
      exact ⟨A25, c26, by rw [hn], hO⟩
    · have hx : ts[i]? = some ⟨(a : Int), (b2 : Int), 0⟩ := by rw [List.getElem?_eq_getElem hi, hx0]
      by_cases hne : i = at_
      · subst hne
        exact rchg1_at hV hle hat hlow hik hi IH Z w0 W A n c l O0 hlim
      · skip
        have hlf : lf (VN.mk (a : Int) (b2 : Int) 0) = false := lf_inner a b2
        have hT : (chT ts 1 at_ (k + 1) i) = .node (chT ts 1 at_ k a) (chT ts 1 at_ k b2) := chT_node hx hne
        have hsa := Tr.size_pos (chT ts 1 at_ k a)
        have hsb := Tr.size_pos (chT ts 1 at_ k b2)
        rw [hT] at hlim
        simp only [Tr.size] at hlim
        refine sx_enter (args := [.slice (some ⟨b, o, none⟩) ts.length c0, .int .i64 (i : Int), .int .i64 (at_ : Int), .int .i64 1, .slice A n c]) Tryd.func65 rfl rfl (by simp) ?_
        refine cw_seq (fun FK1 K1 => ?_)
        refine cw_region ?_
        refine wl_val (v := .slice none 0 0) (fun ρ e => ex_assign (e _ _ rfl)) rfl rfl ?_
        refine wl_nil ?_
        refine xw_next K1 ?_
        refine cw_seq (fun FK2 K2 => ?_)
        refine cw_region ?_
        refine wl_val (v := .slice (some ⟨b, o, none⟩) ts.length c0) (fun ρ e => ex_move (e _ _ rfl)) rfl rfl ?_
        refine wl_val (v := .int .i64 (i : Int)) (fun ρ e => ex_move (e _ _ rfl)) rfl rfl ?_
        refine wl_val (v := .pointer (some ⟨b, o + i * 3, none⟩)) (fun ρ e => ex_idx (q := o + i * 3) (i := i) el23 (e _ _ rfl) (e _ _ rfl) (by omega) (by omega)) rfl rfl ?_
        refine wl_val (v := .agg #[.int .i64 (a : Int), .int .i64 (b2 : Int), .int .i64 0]) (fun ρ e => ex_loadN (vs := [.int .i64 (a : Int), .int .i64 (b2 : Int), .int .i64 0]) ty38 (e _ _ rfl) rfl (cells3 (NodesD.c0 ((O0.ro 1 rfl : (fun w => NodesD D w (.slice (some ⟨b, o, none⟩) ts.length c0) ts) _) : NodesD _ _ _ _) hx) (NodesD.c1 ((O0.ro 1 rfl : (fun w => NodesD D w (.slice (some ⟨b, o, none⟩) ts.length c0) ts) _) : NodesD _ _ _ _) hx) (NodesD.c2 ((O0.ro 1 rfl : (fun w => NodesD D w (.slice (some ⟨b, o, none⟩) ts.length c0) ts) _) : NodesD _ _ _ _) hx))) rfl rfl ?_
        obtain ⟨g3, w4, r5, O6, hg7, hs8⟩ := own_alloc O0 38 ze38 rfl
        refine wl_val (v := .pointer (some ⟨g3, 0, none⟩)) (fun ρ e => r5 ρ _ _ _ _ _) rfl rfl ?_
        obtain ⟨w9, r10, O11, hs12⟩ := own_put (o := 0) (n := 3) O6 ty38 (.agg #[.int .i64 (a : Int), .int .i64 (b2 : Int), .int .i64 0]) [.int .i64 (a : Int), .int .i64 (b2 : Int), .int .i64 0] (cs' := #[.int .i64 (a : Int), .int .i64 (b2 : Int), .int .i64 0]) rfl rfl rfl (Nat.le_of_ble_eq_true rfl) rfl
        refine wl_none (fun ρ e => r10 ρ _ _ _ _ _ _ (e _ _ rfl) (e _ _ rfl)) rfl ?_
        refine wl_nil ?_
        refine xw_next K2 ?_
        refine cw_seq (fun FK13 K13 => ?_)
        refine cw_seq (fun FK14 K14 => ?_)
        refine cw_region ?_
        refine wl_val (v := .agg #[.int .i64 (a : Int), .int .i64 (b2 : Int), .int .i64 0]) (fun ρ e => ex_loadN (vs := [.int .i64 (a : Int), .int .i64 (b2 : Int), .int .i64 0]) ty38 (e _ _ rfl) rfl (O11.cells 0 0 rfl rfl)) rfl rfl ?_
        refine wl_call (args := [.agg #[.int .i64 (a : Int), .int .i64 (b2 : Int), .int .i64 0]]) in_72 rfl rfl rfl ?_
        refine (rleaf_ (VN.mk (a : Int) (b2 : Int) 0) (W := w9)).mono ?_
        rintro _ w15 ⟨rfl, hb16⟩
        have O17 : Own Z w0 w15 [.blk g3 38 #[.int .i64 (a : Int), .int .i64 (b2 : Int), .int .i64 0], .row (.slice A n c) 38 3 n (ncells l), .ro D (fun w => NodesD D w (.slice (some ⟨b, o, none⟩) ts.length c0) ts)] := O11.below hb16
        refine ⟨_, rfl, ?_⟩
        refine wl_nil ?_
        refine xw_next K14 ?_
        refine cw_false (congrArg (fun b => some (Value.bool b)) hlf) ?_
        refine cw_skip ?_
        refine xw_next K13 ?_
        refine cw_seq (fun FK18 K18 => ?_)
        refine cw_seq (fun FK19 K19 => ?_)
        refine cw_region ?_
        refine wl_val (v := .int .i64 (i : Int)) (fun ρ e => ex_move (e _ _ rfl)) rfl rfl ?_
        refine wl_val (v := .int .i64 (at_ : Int)) (fun ρ e => ex_move (e _ _ rfl)) rfl rfl ?_
        refine wl_val (v := .bool false) (fun ρ e => ex_cmp (u := (i : Int)) (v := (at_ : Int)) (e _ _ rfl) (e _ _ rfl) (eql0 (by omega))) rfl rfl ?_
        refine wl_val (v := .bool false) (fun ρ e => ex_move (e _ _ rfl)) rfl rfl ?_
        refine wl_skip rfl rfl ?_
        refine wl_skip rfl rfl ?_
        refine wl_val (v := .bool false) (fun ρ e => ex_pick0 (e _ _ rfl) (e _ _ rfl)) rfl rfl ?_
        refine wl_nil ?_
        refine xw_next K19 ?_
        refine cw_false rfl ?_
        refine cw_skip ?_
        refine xw_next K18 ?_
        refine cw_seq (fun FK20 K20 => ?_)
        refine cw_seq (fun FK21 K21 => ?_)
        refine cw_region ?_
        refine wl_val (v := .int .i64 (i : Int)) (fun ρ e => ex_move (e _ _ rfl)) rfl rfl ?_
        refine wl_val (v := .int .i64 (at_ : Int)) (fun ρ e => ex_move (e _ _ rfl)) rfl rfl ?_
        refine wl_val (v := .bool false) (fun ρ e => ex_cmp (u := (i : Int)) (v := (at_ : Int)) (e _ _ rfl) (e _ _ rfl) (eql0 (by omega))) rfl rfl ?_
        refine wl_val (v := .bool false) (fun ρ e => ex_move (e _ _ rfl)) rfl rfl ?_
        refine wl_skip rfl rfl ?_
        refine wl_skip rfl rfl ?_
        refine wl_val (v := .bool false) (fun ρ e => ex_pick0 (e _ _ rfl) (e _ _ rfl)) rfl rfl ?_
        refine wl_nil ?_
        refine xw_next K21 ?_
        refine cw_false rfl ?_
        refine cw_skip ?_
        refine xw_next K20 ?_
        refine cw_seq (fun FK22 K22 => ?_)
        refine cw_region ?_
        refine wl_val (v := .pointer (some ⟨g3, 0, none⟩)) (fun ρ e => ex_field (q := 0) fi38_0 (e _ _ rfl) rfl) rfl rfl ?_
        refine wl_val (v := .int .i64 (a : Int)) (fun ρ e => ex_load1 ty3 (e _ _ rfl) (O17.cell 0 0 rfl rfl)) rfl rfl ?_
        refine wl_val (v := .int .i64 (a : Int)) (fun ρ e => ex_assign (e _ _ rfl)) rfl rfl ?_
        refine wl_nil ?_
        refine xw_next K22 ?_
        refine cw_seq (fun FK23 K23 => ?_)
        refine cw_region ?_
        refine wl_val (v := .pointer (some ⟨g3, 1, none⟩)) (fun ρ e => ex_field (q := 1) fi38_1 (e _ _ rfl) rfl) rfl rfl ?_
        refine wl_val (v := .int .i64 (b2 : Int)) (fun ρ e => ex_load1 ty3 (e _ _ rfl) (O17.cell 0 1 rfl rfl)) rfl rfl ?_
        refine wl_val (v := .int .i64 (b2 : Int)) (fun ρ e => ex_assign (e _ _ rfl)) rfl rfl ?_
        refine wl_nil ?_
        refine xw_next K23 ?_
        refine cw_seq (fun FK24 K24 => ?_)
        refine cw_seq (fun FK25 K25 => ?_)
        refine cw_region ?_
        refine wl_val (v := .int .i64 (i : Int)) (fun ρ e => ex_move (e _ _ rfl)) rfl rfl ?_
        refine wl_val (v := .int .i64 (at_ : Int)) (fun ρ e => ex_move (e _ _ rfl)) rfl rfl ?_
        refine wl_val (v := .bool false) (fun ρ e => ex_cmp (u := (i : Int)) (v := (at_ : Int)) (e _ _ rfl) (e _ _ rfl) (eql0 (by omega))) rfl rfl ?_
        refine wl_val (v := .bool false) (fun ρ e => ex_move (e _ _ rfl)) rfl rfl ?_
        refine wl_skip rfl rfl ?_
        refine wl_skip rfl rfl ?_
        refine wl_val (v := .bool false) (fun ρ e => ex_pick0 (e _ _ rfl) (e _ _ rfl)) rfl rfl ?_
        refine wl_nil ?_
        refine xw_next K25 ?_
        refine cw_false rfl ?_
        refine cw_skip ?_
        refine xw_next K24 ?_
        refine cw_seq (fun FK26 K26 => ?_)
        refine cw_region ?_
        refine wl_val (v := .slice (some ⟨b, o, none⟩) ts.length c0) (fun ρ e => ex_move (e _ _ rfl)) rfl rfl ?_
        refine wl_val (v := .int .i64 (a : Int)) (fun ρ e => ex_move (e _ _ rfl)) rfl rfl ?_
        refine wl_val (v := .int .i64 (at_ : Int)) (fun ρ e => ex_move (e _ _ rfl)) rfl rfl ?_
        refine wl_val (v := .int .i64 1) (fun ρ e => ex_move (e _ _ rfl)) rfl rfl ?_
        refine wl_val (v := .slice A n c) (fun ρ e => ex_move (e _ _ rfl)) rfl rfl ?_
        refine wl_call (args := [.slice (some ⟨b, o, none⟩) ts.length c0, .int .i64 (a : Int), .int .i64 (at_ : Int), .int .i64 1, .slice A n c]) in_65 rfl rfl rfl ?_
        have O31h := Own.hand (A := [.row (.slice A n c) 38 3 n (ncells l), .ro D (fun w => NodesD D w (.slice (some ⟨b, o, none⟩) ts.length c0) ts)]) (R := [.blk g3 38 #[.int .i64 (a : Int), .int .i64 (b2 : Int), .int .i64 0]]) (O17.re [1, 2, 0] rfl : Own Z w0 w15 [.row (.slice A n c) 38 3 n (ncells l), .ro D (fun w => NodesD D w (.slice (some ⟨b, o, none⟩) ts.length c0) ts), .blk g3 38 #[.int .i64 (a : Int), .int .i64 (b2 : Int), .int .i64 0]])
        refine (IH a (by omega) (by omega) _ _ _ _ _ _ l O31h (by omega)).mono ?_
        rintro _ w29 ⟨A27, c28, rfl, h30⟩
        have O31 : Own Z w0 w29 [.row (.slice A27 (n + Tr.size (chT ts 1 at_ k a)) c28) 38 3 (n + Tr.size (chT ts 1 at_ k a)) (ncells (l ++ post (chT ts 1 at_ k a) n)), .ro D (fun w => NodesD D w (.slice (some ⟨b, o, none⟩) ts.length c0) ts), .blk g3 38 #[.int .i64 (a : Int), .int .i64 (b2 : Int), .int .i64 0]] := Own.frame (A := [.row (.slice A n c) 38 3 n (ncells l), .ro D (fun w => NodesD D w (.slice (some ⟨b, o, none⟩) ts.length c0) ts)]) (R := [.blk g3 38 #[.int .i64 (a : Int), .int .i64 (b2 : Int), .int .i64 0]]) (O17.re [1, 2, 0] rfl : Own Z w0 w15 [.row (.slice A n c) 38 3 n (ncells l), .ro D (fun w => NodesD D w (.slice (some ⟨b, o, none⟩) ts.length c0) ts), .blk g3 38 #[.int .i64 (a : Int), .int .i64 (b2 : Int), .int .i64 0]]) h30
        refine ⟨_, rfl, ?_⟩
        refine wl_val (v := .slice A27 (n + Tr.size (chT ts 1 at_ k a)) c28) (fun ρ e => ex_assign (e _ _ rfl)) rfl rfl ?_
        refine wl_nil ?_
        refine xw_next K26 ?_
        refine cw_seq (fun FK32 K32 => ?_)
        refine cw_region ?_
        refine wl_val (v := .slice A27 (n + Tr.size (chT ts 1 at_ k a)) c28) (fun ρ e => ex_move (e _ _ rfl)) rfl rfl ?_
        refine wl_val (v := .int .i64 (((n + Tr.size (chT ts 1 at_ k a)) : Nat) : Int)) (fun ρ e => ex_len el23 (e _ _ rfl)) rfl rfl ?_
        refine wl_val (v := .int .i64 (((n + Tr.size (chT ts 1 at_ k a)) - 1 : Nat) : Int)) (fun ρ e => ex_arith (k := .i64) (u := (((n + Tr.size (chT ts 1 at_ k a)) : Nat) : Int)) (v := 1) (e _ _ rfl) (e _ _ rfl) (congrArg some ((congrArg _ (show _ = (((n + Tr.size (chT ts 1 at_ k a)) - 1 : Nat) : Int) by omega)).trans (wrap_in (by omega) (by omega))))) rfl rfl ?_
        refine wl_val (v := .int .i64 (((n + Tr.size (chT ts 1 at_ k a)) - 1 : Nat) : Int)) (fun ρ e => ex_assign (e _ _ rfl)) rfl rfl ?_
        refine wl_nil ?_
        refine xw_next K32 ?_
        refine cw_seq (fun FK33 K33 => ?_)
        refine cw_region ?_
        refine wl_val (v := .slice (some ⟨b, o, none⟩) ts.length c0) (fun ρ e => ex_move (e _ _ rfl)) rfl rfl ?_
        refine wl_val (v := .int .i64 (b2 : Int)) (fun ρ e => ex_move (e _ _ rfl)) rfl rfl ?_
        refine wl_val (v := .int .i64 (at_ : Int)) (fun ρ e => ex_move (e _ _ rfl)) rfl rfl ?_
        refine wl_val (v := .int .i64 1) (fun ρ e => ex_move (e _ _ rfl)) rfl rfl ?_
        refine wl_val (v := .slice A27 (n + Tr.size (chT ts 1 at_ k a)) c28) (fun ρ e => ex_move (e _ _ rfl)) rfl rfl ?_
        refine wl_call (args := [.slice (some ⟨b, o, none⟩) ts.length c0, .int .i64 (b2 : Int), .int .i64 (at_ : Int), .int .i64 1, .slice A27 (n + Tr.size (chT ts 1 at_ k a)) c28]) in_65 rfl rfl rfl ?_
        have O38h := Own.hand (A := [.row (.slice A27 (n + Tr.size (chT ts 1 at_ k a)) c28) 38 3 (n + Tr.size (chT ts 1 at_ k a)) (ncells (l ++ post (chT ts 1 at_ k a) n)), .ro D (fun w => NodesD D w (.slice (some ⟨b, o, none⟩) ts.length c0) ts)]) (R := [.blk g3 38 #[.int .i64 (a : Int), .int .i64 (b2 : Int), .int .i64 0]]) O31
        refine (IH b2 (by omega) (by omega) _ _ _ _ _ _ (l ++ post (chT ts 1 at_ k a) n) O38h (by omega)).mono ?_
        rintro _ w36 ⟨A34, c35, rfl, h37⟩
        have O38 : Own Z w0 w36 [.row (.slice A34 ((n + Tr.size (chT ts 1 at_ k a)) + Tr.size (chT ts 1 at_ k b2)) c35) 38 3 ((n + Tr.size (chT ts 1 at_ k a)) + Tr.size (chT ts 1 at_ k b2)) (ncells ((l ++ post (chT ts 1 at_ k a) n) ++ post (chT ts 1 at_ k b2) (n + Tr.size (chT ts 1 at_ k a)))), .ro D (fun w => NodesD D w (.slice (some ⟨b, o, none⟩) ts.length c0) ts), .blk g3 38 #[.int .i64 (a : Int), .int .i64 (b2 : Int), .int .i64 0]] := Own.frame (A := [.row (.slice A27 (n + Tr.size (chT ts 1 at_ k a)) c28) 38 3 (n + Tr.size (chT ts 1 at_ k a)) (ncells (l ++ post (chT ts 1 at_ k a) n)), .ro D (fun w => NodesD D w (.slice (some ⟨b, o, none⟩) ts.length c0) ts)]) (R := [.blk g3 38 #[.int .i64 (a : Int), .int .i64 (b2 : Int), .int .i64 0]]) O31 h37
        refine ⟨_, rfl, ?_⟩
        refine wl_val (v := .slice A34 ((n + Tr.size (chT ts 1 at_ k a)) + Tr.size (chT ts 1 at_ k b2)) c35) (fun ρ e => ex_assign (e _ _ rfl)) rfl rfl ?_
        refine wl_nil ?_
        refine xw_next K33 ?_
        refine cw_seq (fun FK39 K39 => ?_)
        refine cw_region ?_
        refine wl_val (v := .slice A34 ((n + Tr.size (chT ts 1 at_ k a)) + Tr.size (chT ts 1 at_ k b2)) c35) (fun ρ e => ex_move (e _ _ rfl)) rfl rfl ?_
        refine wl_val (v := .int .i64 (((n + Tr.size (chT ts 1 at_ k a)) - 1 : Nat) : Int)) (fun ρ e => ex_move (e _ _ rfl)) rfl rfl ?_
        refine wl_val (v := .slice A34 ((n + Tr.size (chT ts 1 at_ k a)) + Tr.size (chT ts 1 at_ k b2)) c35) (fun ρ e => ex_move (e _ _ rfl)) rfl rfl ?_
        refine wl_val (v := .int .i64 ((((n + Tr.size (chT ts 1 at_ k a)) + Tr.size (chT ts 1 at_ k b2)) : Nat) : Int)) (fun ρ e => ex_len el23 (e _ _ rfl)) rfl rfl ?_
        refine wl_val (v := .int .i64 ((((n + Tr.size (chT ts 1 at_ k a)) + Tr.size (chT ts 1 at_ k b2)) - 1 : Nat) : Int)) (fun ρ e => ex_arith (k := .i64) (u := ((((n + Tr.size (chT ts 1 at_ k a)) + Tr.size (chT ts 1 at_ k b2)) : Nat) : Int)) (v := 1) (e _ _ rfl) (e _ _ rfl) (congrArg some ((congrArg _ (show _ = ((((n + Tr.size (chT ts 1 at_ k a)) + Tr.size (chT ts 1 at_ k b2)) - 1 : Nat) : Int) by omega)).trans (wrap_in (by omega) (by omega))))) rfl rfl ?_
        refine wl_val (v := .agg #[.int .i64 (((n + Tr.size (chT ts 1 at_ k a)) - 1 : Nat) : Int), .int .i64 ((((n + Tr.size (chT ts 1 at_ k a)) + Tr.size (chT ts 1 at_ k b2)) - 1 : Nat) : Int), .int .i64 0]) (fun ρ e => ex_build (cells := #[.int .i64 (((n + Tr.size (chT ts 1 at_ k a)) - 1 : Nat) : Int), .int .i64 ((((n + Tr.size (chT ts 1 at_ k a)) + Tr.size (chT ts 1 at_ k b2)) - 1 : Nat) : Int), .int .i64 0]) st38 (e.parts rfl) rfl) rfl rfl ?_
        obtain ⟨g40, w41, r42, O43, hg44, hs45⟩ := own_slice O38 el23 ze38 1 [(0, .agg #[.int .i64 (((n + Tr.size (chT ts 1 at_ k a)) - 1 : Nat) : Int), .int .i64 ((((n + Tr.size (chT ts 1 at_ k a)) + Tr.size (chT ts 1 at_ k b2)) - 1 : Nat) : Int), .int .i64 0])] (cs := #[.int .i64 (((n + Tr.size (chT ts 1 at_ k a)) - 1 : Nat) : Int), .int .i64 ((((n + Tr.size (chT ts 1 at_ k a)) + Tr.size (chT ts 1 at_ k b2)) - 1 : Nat) : Int), .int .i64 0]) (by decide) (by kernel_rfl)
        refine wl_val (v := .slice (some ⟨g40, 0, none⟩) 1 1) (fun ρ e => r42 ρ _ _ _ _ _ _ (e.parts rfl)) rfl rfl ?_
        obtain ⟨A46, c47, w48, r49, O50, hz51, hc52⟩ := own_app1 (O43.re [1, 0, 2, 3] rfl : Own Z w0 w41 [.row (.slice A34 ((n + Tr.size (chT ts 1 at_ k a)) + Tr.size (chT ts 1 at_ k b2)) c35) 38 3 ((n + Tr.size (chT ts 1 at_ k a)) + Tr.size (chT ts 1 at_ k b2)) (ncells ((l ++ post (chT ts 1 at_ k a) n) ++ post (chT ts 1 at_ k b2) (n + Tr.size (chT ts 1 at_ k a)))), .blk g40 38 #[.int .i64 (((n + Tr.size (chT ts 1 at_ k a)) - 1 : Nat) : Int), .int .i64 ((((n + Tr.size (chT ts 1 at_ k a)) + Tr.size (chT ts 1 at_ k b2)) - 1 : Nat) : Int), .int .i64 0], .ro D (fun w => NodesD D w (.slice (some ⟨b, o, none⟩) ts.length c0) ts), .blk g3 38 #[.int .i64 (a : Int), .int .i64 (b2 : Int), .int .i64 0]]) ap23 ((O43.re [1, 0, 2, 3] rfl : Own Z w0 w41 [.row (.slice A34 ((n + Tr.size (chT ts 1 at_ k a)) + Tr.size (chT ts 1 at_ k b2)) c35) 38 3 ((n + Tr.size (chT ts 1 at_ k a)) + Tr.size (chT ts 1 at_ k b2)) (ncells ((l ++ post (chT ts 1 at_ k a) n) ++ post (chT ts 1 at_ k b2) (n + Tr.size (chT ts 1 at_ k a)))), .blk g40 38 #[.int .i64 (((n + Tr.size (chT ts 1 at_ k a)) - 1 : Nat) : Int), .int .i64 ((((n + Tr.size (chT ts 1 at_ k a)) + Tr.size (chT ts 1 at_ k b2)) - 1 : Nat) : Int), .int .i64 0], .ro D (fun w => NodesD D w (.slice (some ⟨b, o, none⟩) ts.length c0) ts), .blk g3 38 #[.int .i64 (a : Int), .int .i64 (b2 : Int), .int .i64 0]]).blk 1 rfl) (cells := [.int .i64 (((n + Tr.size (chT ts 1 at_ k a)) - 1 : Nat) : Int), .int .i64 ((((n + Tr.size (chT ts 1 at_ k a)) + Tr.size (chT ts 1 at_ k b2)) - 1 : Nat) : Int), .int .i64 0]) rfl rfl (by omega) (by omega) (ys := (ncells (((l ++ post (chT ts 1 at_ k a) n) ++ post (chT ts 1 at_ k b2) (n + Tr.size (chT ts 1 at_ k a))) ++ [(VN.mk (((n + Tr.size (chT ts 1 at_ k a)) - 1 : Nat) : Int) ((((n + Tr.size (chT ts 1 at_ k a)) + Tr.size (chT ts 1 at_ k b2)) - 1 : Nat) : Int) 0)]))) (ncells_snoc ((l ++ post (chT ts 1 at_ k a) n) ++ post (chT ts 1 at_ k b2) (n + Tr.size (chT ts 1 at_ k a))) (VN.mk (((n + Tr.size (chT ts 1 at_ k a)) - 1 : Nat) : Int) ((((n + Tr.size (chT ts 1 at_ k a)) + Tr.size (chT ts 1 at_ k b2)) - 1 : Nat) : Int) 0))
        refine wl_val (v := .slice A46 (((n + Tr.size (chT ts 1 at_ k a)) + Tr.size (chT ts 1 at_ k b2)) + 1) c47) (fun ρ e => r49 ρ _ _ _ _ _ _ _ (e _ _ rfl) (e _ _ rfl)) rfl rfl ?_
        refine wl_val (v := .slice A46 (((n + Tr.size (chT ts 1 at_ k a)) + Tr.size (chT ts 1 at_ k b2)) + 1) c47) (fun ρ e => ex_assign (e _ _ rfl)) rfl rfl ?_
        refine wl_nil ?_
        refine xw_next K39 ?_
        refine cw_ret ?_
        refine xw_ret (v := .slice A46 (((n + Tr.size (chT ts 1 at_ k a)) + Tr.size (chT ts 1 at_ k b2)) + 1) c47) (fun T hT => res1 rfl T _ (hT 10 _ rfl)) ?_
        have hn : ((n + Tr.size (chT ts 1 at_ k a)) + Tr.size (chT ts 1 at_ k b2)) + 1 = n + Tr.size (chT ts 1 at_ (k + 1) i) := by rw [hT]; simp only [Tr.size] <;> omega
        have hl : (((l ++ post (chT ts 1 at_ k a) n) ++ post (chT ts 1 at_ k b2) (n + Tr.size (chT ts 1 at_ k a))) ++ [(VN.mk (((n + Tr.size (chT ts 1 at_ k a)) - 1 : Nat) : Int) ((((n + Tr.size (chT ts 1 at_ k a)) + Tr.size (chT ts 1 at_ k b2)) - 1 : Nat) : Int) 0)]) = l ++ post (chT ts 1 at_ (k + 1) i) n := by rw [hT]; simp [post, Tr.size, Nat.add_assoc]
        have hO := (O50.re [0, 2] rfl : Own Z w0 w48 [.row (.slice A46 (((n + Tr.size (chT ts 1 at_ k a)) + Tr.size (chT ts 1 at_ k b2)) + 1) c47) 38 3 (((n + Tr.size (chT ts 1 at_ k a)) + Tr.size (chT ts 1 at_ k b2)) + 1) (ncells (((l ++ post (chT ts 1 at_ k a) n) ++ post (chT ts 1 at_ k b2) (n + Tr.size (chT ts 1 at_ k a))) ++ [(VN.mk (((n + Tr.size (chT ts 1 at_ k a)) - 1 : Nat) : Int) ((((n + Tr.size (chT ts 1 at_ k a)) + Tr.size (chT ts 1 at_ k b2)) - 1 : Nat) : Int) 0)])), .ro D (fun w => NodesD D w (.slice (some ⟨b, o, none⟩) ts.length c0) ts)])
        rw [hn, hl] at hO
        exact ⟨A46, c47, by rw [hn], hO⟩
theorem rchg2_at {ts : List VN} {D : Nat → Prop} {b o c0 at_ ax bx p q k : Nat} (hV : Val ts) (hle : ts.length ≤ 255) (hat : ts[at_]? = some ⟨(ax : Int), (bx : Int), 0⟩) (hlow : ts[bx]? = some ⟨(p : Int), (q : Int), 0⟩) (hik : at_ < k + 1) (hi : at_ < ts.length) (IH : ∀ (i : Nat), i < k → i < ts.length → ∀ (Z : Bool → Nat → Prop) (w0 W : World) (A : Option Addr) (n c : Nat) (l : List VN), Own Z w0 W [.row (.slice A n c) 38 3 n (ncells l), .ro D (fun w => NodesD D w (.slice (some ⟨b, o, none⟩) ts.length c0) ts)] → n + Tr.size (chT ts 2 at_ k i) ≤ 10000 →
    Calls Tryd.prog 65 #[.slice (some ⟨b, o, none⟩) ts.length c0, .int .i64 (i : Int), .int .i64 (at_ : Int), .int .i64 2, .slice A n c] W fun e w' => ∃ A' c', e = .returned (.slice A' (n + Tr.size (chT ts 2 at_ k i)) c') ∧ Own Z w0 w' [.row (.slice A' (n + Tr.size (chT ts 2 at_ k i)) c') 38 3 (n + Tr.size (chT ts 2 at_ k i)) (ncells (l ++ post (chT ts 2 at_ k i) n)), .ro D (fun w => NodesD D w (.slice (some ⟨b, o, none⟩) ts.length c0) ts)]) (Z : Bool → Nat → Prop) (w0 W : World) (A : Option Addr) (n c : Nat) (l : List VN) (O0 : Own Z w0 W [.row (.slice A n c) 38 3 n (ncells l), .ro D (fun w => NodesD D w (.slice (some ⟨b, o, none⟩) ts.length c0) ts)]) (hlim : n + Tr.size (chT ts 2 at_ (k + 1) at_) ≤ 10000) :
    Calls Tryd.prog 65 #[.slice (some ⟨b, o, none⟩) ts.length c0, .int .i64 (at_ : Int), .int .i64 (at_ : Int), .int .i64 2, .slice A n c] W fun e w' => ∃ A' c', e = .returned (.slice A' (n + Tr.size (chT ts 2 at_ (k + 1) at_)) c') ∧ Own Z w0 w' [.row (.slice A' (n + Tr.size (chT ts 2 at_ (k + 1) at_)) c') 38 3 (n + Tr.size (chT ts 2 at_ (k + 1) at_)) (ncells (l ++ post (chT ts 2 at_ (k + 1) at_) n)), .ro D (fun w => NodesD D w (.slice (some ⟨b, o, none⟩) ts.length c0) ts)] := by
      have hlf : lf (VN.mk (ax : Int) (bx : Int) 0) = false := lf_inner ax bx
      obtain ⟨_, _, _, _⟩ := hV.in_ hat
      obtain ⟨_, _, _, _⟩ := hV.in_ hlow
      have hT : (chT ts 2 at_ (k + 1) at_) = .node (.node (trF ts k ax) (trF ts k p)) (trF ts k q) := chT_l hat hlow
      have hs1 := Tr.size_pos (trF ts k p)
      have hs2 := Tr.size_pos (trF ts k q)
      have hs3 := Tr.size_pos (trF ts k ax)
      rw [hT] at hlim
      simp only [Tr.size] at hlim
      refine sx_enter (args := [.slice (some ⟨b, o, none⟩) ts.length c0, .int .i64 (at_ : Int), .int .i64 (at_ : Int), .int .i64 2, .slice A n c]) Tryd.func65 rfl rfl (by simp) ?_
      refine cw_seq (fun FK1 K1 => ?_)
      refine cw_region ?_
      refine wl_val (v := .slice none 0 0) (fun ρ e => ex_assign (e _ _ rfl)) rfl rfl ?_
      refine wl_nil ?_
      refine xw_next K1 ?_
      refine cw_seq (fun FK2 K2 => ?_)
      refine cw_region ?_
      refine wl_val (v := .slice (some ⟨b, o, none⟩) ts.length c0) (fun ρ e => ex_move (e _ _ rfl)) rfl rfl ?_
      refine wl_val (v := .int .i64 (at_ : Int)) (fun ρ e => ex_move (e _ _ rfl)) rfl rfl ?_
      refine wl_val (v := .pointer (some ⟨b, o + at_ * 3, none⟩)) (fun ρ e => ex_idx (q := o + at_ * 3) (i := at_) el23 (e _ _ rfl) (e _ _ rfl) (by omega) (by omega)) rfl rfl ?_
      refine wl_val (v := .agg #[.int .i64 (ax : Int), .int .i64 (bx : Int), .int .i64 0]) (fun ρ e => ex_loadN (vs := [.int .i64 (ax : Int), .int .i64 (bx : Int), .int .i64 0]) ty38 (e _ _ rfl) rfl (cells3 (NodesD.c0 ((O0.ro 1 rfl : (fun w => NodesD D w (.slice (some ⟨b, o, none⟩) ts.length c0) ts) _) : NodesD _ _ _ _) hat) (NodesD.c1 ((O0.ro 1 rfl : (fun w => NodesD D w (.slice (some ⟨b, o, none⟩) ts.length c0) ts) _) : NodesD _ _ _ _) hat) (NodesD.c2 ((O0.ro 1 rfl : (fun w => NodesD D w (.slice (some ⟨b, o, none⟩) ts.length c0) ts) _) : NodesD _ _ _ _) hat))) rfl rfl ?_
      obtain ⟨g3, w4, r5, O6, hg7, hs8⟩ := own_alloc O0 38 ze38 rfl
      refine wl_val (v := .pointer (some ⟨g3, 0, none⟩)) (fun ρ e => r5 ρ _ _ _ _ _) rfl rfl ?_
      obtain ⟨w9, r10, O11, hs12⟩ := own_put (o := 0) (n := 3) O6 ty38 (.agg #[.int .i64 (ax : Int), .int .i64 (bx : Int), .int .i64 0]) [.int .i64 (ax : Int), .int .i64 (bx : Int), .int .i64 0] (cs' := #[.int .i64 (ax : Int), .int .i64 (bx : Int), .int .i64 0]) rfl rfl rfl (Nat.le_of_ble_eq_true rfl) rfl
      refine wl_none (fun ρ e => r10 ρ _ _ _ _ _ _ (e _ _ rfl) (e _ _ rfl)) rfl ?_
      refine wl_nil ?_
      refine xw_next K2 ?_
      refine cw_seq (fun FK13 K13 => ?_)
      refine cw_seq (fun FK14 K14 => ?_)
      refine cw_region ?_
      refine wl_val (v := .agg #[.int .i64 (ax : Int), .int .i64 (bx : Int), .int .i64 0]) (fun ρ e => ex_loadN (vs := [.int .i64 (ax : Int), .int .i64 (bx : Int), .int .i64 0]) ty38 (e _ _ rfl) rfl (O11.cells 0 0 rfl rfl)) rfl rfl ?_
      refine wl_call (args := [.agg #[.int .i64 (ax : Int), .int .i64 (bx : Int), .int .i64 0]]) in_72 rfl rfl rfl ?_
      refine (rleaf_ (VN.mk (ax : Int) (bx : Int) 0) (W := w9)).mono ?_
      rintro _ w15 ⟨rfl, hb16⟩
      have O17 : Own Z w0 w15 [.blk g3 38 #[.int .i64 (ax : Int), .int .i64 (bx : Int), .int .i64 0], .row (.slice A n c) 38 3 n (ncells l), .ro D (fun w => NodesD D w (.slice (some ⟨b, o, none⟩) ts.length c0) ts)] := O11.below hb16
      refine ⟨_, rfl, ?_⟩
      refine wl_nil ?_
      refine xw_next K14 ?_
      refine cw_false (congrArg (fun b => some (Value.bool b)) hlf) ?_
      refine cw_skip ?_
      refine xw_next K13 ?_
      refine cw_seq (fun FK18 K18 => ?_)
      refine cw_seq (fun FK19 K19 => ?_)
      refine cw_region ?_
      refine wl_val (v := .int .i64 (at_ : Int)) (fun ρ e => ex_move (e _ _ rfl)) rfl rfl ?_
      refine wl_val (v := .int .i64 (at_ : Int)) (fun ρ e => ex_move (e _ _ rfl)) rfl rfl ?_
      refine wl_val (v := .bool true) (fun ρ e => ex_cmp (u := (at_ : Int)) (v := (at_ : Int)) (e _ _ rfl) (e _ _ rfl) (eql1 rfl)) rfl rfl ?_
      refine wl_val (v := .bool true) (fun ρ e => ex_move (e _ _ rfl)) rfl rfl ?_
      refine wl_val (v := .int .i64 2) (fun ρ e => ex_move (e _ _ rfl)) rfl rfl ?_
      refine wl_val (v := .bool false) (fun ρ e => ex_cmp (u := 2) (v := 1) (e _ _ rfl) (e _ _ rfl) (eql0 (by omega))) rfl rfl ?_
      refine wl_val (v := .bool false) (fun ρ e => ex_pick1 (e _ _ rfl) (e _ _ rfl)) rfl rfl ?_
      refine wl_nil ?_
      refine xw_next K19 ?_
      refine cw_false rfl ?_
      refine cw_skip ?_
      refine xw_next K18 ?_
      refine cw_seq (fun FK20 K20 => ?_)
      refine cw_seq (fun FK21 K21 => ?_)
      refine cw_region ?_
      refine wl_val (v := .int .i64 (at_ : Int)) (fun ρ e => ex_move (e _ _ rfl)) rfl rfl ?_
      refine wl_val (v := .int .i64 (at_ : Int)) (fun ρ e => ex_move (e _ _ rfl)) rfl rfl ?_
      refine wl_val (v := .bool true) (fun ρ e => ex_cmp (u := (at_ : Int)) (v := (at_ : Int)) (e _ _ rfl) (e _ _ rfl) (eql1 rfl)) rfl rfl ?_
      refine wl_val (v := .bool true) (fun ρ e => ex_move (e _ _ rfl)) rfl rfl ?_
      refine wl_val (v := .int .i64 2) (fun ρ e => ex_move (e _ _ rfl)) rfl rfl ?_
      refine wl_val (v := .bool true) (fun ρ e => ex_cmp (u := 2) (v := 2) (e _ _ rfl) (e _ _ rfl) (eql1 (by omega))) rfl rfl ?_
      refine wl_val (v := .bool true) (fun ρ e => ex_pick1 (e _ _ rfl) (e _ _ rfl)) rfl rfl ?_
      refine wl_nil ?_
      refine xw_next K21 ?_
      refine cw_true rfl ?_
      refine cw_seq (fun FK22 K22 => ?_)
      refine cw_region ?_
      refine wl_val (v := .slice (some ⟨b, o, none⟩) ts.length c0) (fun ρ e => ex_move (e _ _ rfl)) rfl rfl ?_
      refine wl_val (v := .pointer (some ⟨g3, 1, none⟩)) (fun ρ e => ex_field (q := 1) fi38_1 (e _ _ rfl) rfl) rfl rfl ?_
      refine wl_val (v := .int .i64 (bx : Int)) (fun ρ e => ex_load1 ty3 (e _ _ rfl) (O17.cell 0 1 rfl rfl)) rfl rfl ?_
      refine wl_val (v := .pointer (some ⟨b, o + bx * 3, none⟩)) (fun ρ e => ex_idx (q := o + bx * 3) (i := bx) el23 (e _ _ rfl) (e _ _ rfl) (by omega) (by omega)) rfl rfl ?_
      refine wl_val (v := .agg #[.int .i64 (p : Int), .int .i64 (q : Int), .int .i64 0]) (fun ρ e => ex_loadN (vs := [.int .i64 (p : Int), .int .i64 (q : Int), .int .i64 0]) ty38 (e _ _ rfl) rfl (cells3 (NodesD.c0 ((O17.ro 2 rfl : (fun w => NodesD D w (.slice (some ⟨b, o, none⟩) ts.length c0) ts) _) : NodesD _ _ _ _) hlow) (NodesD.c1 ((O17.ro 2 rfl : (fun w => NodesD D w (.slice (some ⟨b, o, none⟩) ts.length c0) ts) _) : NodesD _ _ _ _) hlow) (NodesD.c2 ((O17.ro 2 rfl : (fun w => NodesD D w (.slice (some ⟨b, o, none⟩) ts.length c0) ts) _) : NodesD _ _ _ _) hlow))) rfl rfl ?_
      obtain ⟨g23, w24, r25, O26, hg27, hs28⟩ := own_alloc O17 38 ze38 rfl
      refine wl_val (v := .pointer (some ⟨g23, 0, none⟩)) (fun ρ e => r25 ρ _ _ _ _ _) rfl rfl ?_
      obtain ⟨w29, r30, O31, hs32⟩ := own_put (o := 0) (n := 3) O26 ty38 (.agg #[.int .i64 (p : Int), .int .i64 (q : Int), .int .i64 0]) [.int .i64 (p : Int), .int .i64 (q : Int), .int .i64 0] (cs' := #[.int .i64 (p : Int), .int .i64 (q : Int), .int .i64 0]) rfl rfl rfl (Nat.le_of_ble_eq_true rfl) rfl
      refine wl_none (fun ρ e => r30 ρ _ _ _ _ _ _ (e _ _ rfl) (e _ _ rfl)) rfl ?_
      refine wl_nil ?_
      refine xw_next K22 ?_
      refine cw_seq (fun FK33 K33 => ?_)
      refine cw_region ?_
      refine wl_val (v := .slice (some ⟨b, o, none⟩) ts.length c0) (fun ρ e => ex_move (e _ _ rfl)) rfl rfl ?_
      refine wl_val (v := .pointer (some ⟨g3, 0, none⟩)) (fun ρ e => ex_field (q := 0) fi38_0 (e _ _ rfl) rfl) rfl rfl ?_
      refine wl_val (v := .int .i64 (ax : Int)) (fun ρ e => ex_load1 ty3 (e _ _ rfl) (O31.cell 1 0 rfl rfl)) rfl rfl ?_
      refine wl_val (v := .slice A n c) (fun ρ e => ex_move (e _ _ rfl)) rfl rfl ?_
      refine wl_call (args := [.slice (some ⟨b, o, none⟩) ts.length c0, .int .i64 (ax : Int), .slice A n c]) in_80 rfl rfl rfl ?_
      obtain ⟨vsax, hAax⟩ := At.get hV (n := k) (j := ax) (by omega) (by omega)
      have hzax := hAax.small hV
      have O38h := Own.hand (A := [.row (.slice A n c) 38 3 n (ncells l), .ro D (fun w => NodesD D w (.slice (some ⟨b, o, none⟩) ts.length c0) ts)]) (R := [.blk g23 38 #[.int .i64 (p : Int), .int .i64 (q : Int), .int .i64 0], .blk g3 38 #[.int .i64 (ax : Int), .int .i64 (bx : Int), .int .i64 0]]) (O31.re [2, 3, 0, 1] rfl : Own Z w0 w29 [.row (.slice A n c) 38 3 n (ncells l), .ro D (fun w => NodesD D w (.slice (some ⟨b, o, none⟩) ts.length c0) ts), .blk g23 38 #[.int .i64 (p : Int), .int .i64 (q : Int), .int .i64 0], .blk g3 38 #[.int .i64 (ax : Int), .int .i64 (bx : Int), .int .i64 0]])
      refine (rlist_ hle hAax _ _ _ _ _ _ l O38h (by omega)).mono ?_
      rintro _ w36 ⟨A34, c35, rfl, h37⟩
      have O38 : Own Z w0 w36 [.row (.slice A34 (n + Tr.size (trF ts k ax)) c35) 38 3 (n + Tr.size (trF ts k ax)) (ncells (l ++ post (trF ts k ax) n)), .ro D (fun w => NodesD D w (.slice (some ⟨b, o, none⟩) ts.length c0) ts), .blk g23 38 #[.int .i64 (p : Int), .int .i64 (q : Int), .int .i64 0], .blk g3 38 #[.int .i64 (ax : Int), .int .i64 (bx : Int), .int .i64 0]] := Own.frame (A := [.row (.slice A n c) 38 3 n (ncells l), .ro D (fun w => NodesD D w (.slice (some ⟨b, o, none⟩) ts.length c0) ts)]) (R := [.blk g23 38 #[.int .i64 (p : Int), .int .i64 (q : Int), .int .i64 0], .blk g3 38 #[.int .i64 (ax : Int), .int .i64 (bx : Int), .int .i64 0]]) (O31.re [2, 3, 0, 1] rfl : Own Z w0 w29 [.row (.slice A n c) 38 3 n (ncells l), .ro D (fun w => NodesD D w (.slice (some ⟨b, o, none⟩) ts.length c0) ts), .blk g23 38 #[.int .i64 (p : Int), .int .i64 (q : Int), .int .i64 0], .blk g3 38 #[.int .i64 (ax : Int), .int .i64 (bx : Int), .int .i64 0]]) h37
      refine ⟨_, rfl, ?_⟩
      refine wl_val (v := .slice A34 (n + Tr.size (trF ts k ax)) c35) (fun ρ e => ex_assign (e _ _ rfl)) rfl rfl ?_
      refine wl_nil ?_
      refine xw_next K33 ?_
      refine cw_seq (fun FK39 K39 => ?_)
      refine cw_region ?_
      refine wl_val (v := .slice A34 (n + Tr.size (trF ts k ax)) c35) (fun ρ e => ex_move (e _ _ rfl)) rfl rfl ?_
      refine wl_val (v := .int .i64 (((n + Tr.size (trF ts k ax)) : Nat) : Int)) (fun ρ e => ex_len el23 (e _ _ rfl)) rfl rfl ?_
      refine wl_val (v := .int .i64 (((n + Tr.size (trF ts k ax)) - 1 : Nat) : Int)) (fun ρ e => ex_arith (k := .i64) (u := (((n + Tr.size (trF ts k ax)) : Nat) : Int)) (v := 1) (e _ _ rfl) (e _ _ rfl) (congrArg some ((congrArg _ (show _ = (((n + Tr.size (trF ts k ax)) - 1 : Nat) : Int) by omega)).trans (wrap_in (by omega) (by omega))))) rfl rfl ?_
      refine wl_val (v := .int .i64 (((n + Tr.size (trF ts k ax)) - 1 : Nat) : Int)) (fun ρ e => ex_assign (e _ _ rfl)) rfl rfl ?_
      refine wl_nil ?_
      refine xw_next K39 ?_
      refine cw_seq (fun FK40 K40 => ?_)
      refine cw_region ?_
      refine wl_val (v := .slice (some ⟨b, o, none⟩) ts.length c0) (fun ρ e => ex_move (e _ _ rfl)) rfl rfl ?_
      refine wl_val (v := .pointer (some ⟨g23, 0, none⟩)) (fun ρ e => ex_field (q := 0) fi38_0 (e _ _ rfl) rfl) rfl rfl ?_
      refine wl_val (v := .int .i64 (p : Int)) (fun ρ e => ex_load1 ty3 (e _ _ rfl) (O38.cell 2 0 rfl rfl)) rfl rfl ?_
      refine wl_val (v := .slice A34 (n + Tr.size (trF ts k ax)) c35) (fun ρ e => ex_move (e _ _ rfl)) rfl rfl ?_
      refine wl_call (args := [.slice (some ⟨b, o, none⟩) ts.length c0, .int .i64 (p : Int), .slice A34 (n + Tr.size (trF ts k ax)) c35]) in_80 rfl rfl rfl ?_
      obtain ⟨vsp, hAp⟩ := At.get hV (n := k) (j := p) (by omega) (by omega)
      have hzp := hAp.small hV
      have O45h := Own.hand (A := [.row (.slice A34 (n + Tr.size (trF ts k ax)) c35) 38 3 (n + Tr.size (trF ts k ax)) (ncells (l ++ post (trF ts k ax) n)), .ro D (fun w => NodesD D w (.slice (some ⟨b, o, none⟩) ts.length c0) ts)]) (R := [.blk g23 38 #[.int .i64 (p : Int), .int .i64 (q : Int), .int .i64 0], .blk g3 38 #[.int .i64 (ax : Int), .int .i64 (bx : Int), .int .i64 0]]) O38
      refine (rlist_ hle hAp _ _ _ _ _ _ (l ++ post (trF ts k ax) n) O45h (by omega)).mono ?_
      rintro _ w43 ⟨A41, c42, rfl, h44⟩
      have O45 : Own Z w0 w43 [.row (.slice A41 ((n + Tr.size (trF ts k ax)) + Tr.size (trF ts k p)) c42) 38 3 ((n + Tr.size (trF ts k ax)) + Tr.size (trF ts k p)) (ncells ((l ++ post (trF ts k ax) n) ++ post (trF ts k p) (n + Tr.size (trF ts k ax)))), .ro D (fun w => NodesD D w (.slice (some ⟨b, o, none⟩) ts.length c0) ts), .blk g23 38 #[.int .i64 (p : Int), .int .i64 (q : Int), .int .i64 0], .blk g3 38 #[.int .i64 (ax : Int), .int .i64 (bx : Int), .int .i64 0]] := Own.frame (A := [.row (.slice A34 (n + Tr.size (trF ts k ax)) c35) 38 3 (n + Tr.size (trF ts k ax)) (ncells (l ++ post (trF ts k ax) n)), .ro D (fun w => NodesD D w (.slice (some ⟨b, o, none⟩) ts.length c0) ts)]) (R := [.blk g23 38 #[.int .i64 (p : Int), .int .i64 (q : Int), .int .i64 0], .blk g3 38 #[.int .i64 (ax : Int), .int .i64 (bx : Int), .int .i64 0]]) O38 h44
      refine ⟨_, rfl, ?_⟩
      refine wl_val (v := .slice A41 ((n + Tr.size (trF ts k ax)) + Tr.size (trF ts k p)) c42) (fun ρ e => ex_assign (e _ _ rfl)) rfl rfl ?_
      refine wl_nil ?_
      refine xw_next K40 ?_
      refine cw_seq (fun FK46 K46 => ?_)
      refine cw_region ?_
      refine wl_val (v := .slice A41 ((n + Tr.size (trF ts k ax)) + Tr.size (trF ts k p)) c42) (fun ρ e => ex_move (e _ _ rfl)) rfl rfl ?_
      refine wl_val (v := .int .i64 (((n + Tr.size (trF ts k ax)) - 1 : Nat) : Int)) (fun ρ e => ex_move (e _ _ rfl)) rfl rfl ?_
      refine wl_val (v := .slice A41 ((n + Tr.size (trF ts k ax)) + Tr.size (trF ts k p)) c42) (fun ρ e => ex_move (e _ _ rfl)) rfl rfl ?_
      refine wl_val (v := .int .i64 ((((n + Tr.size (trF ts k ax)) + Tr.size (trF ts k p)) : Nat) : Int)) (fun ρ e => ex_len el23 (e _ _ rfl)) rfl rfl ?_
      refine wl_val (v := .int .i64 ((((n + Tr.size (trF ts k ax)) + Tr.size (trF ts k p)) - 1 : Nat) : Int)) (fun ρ e => ex_arith (k := .i64) (u := ((((n + Tr.size (trF ts k ax)) + Tr.size (trF ts k p)) : Nat) : Int)) (v := 1) (e _ _ rfl) (e _ _ rfl) (congrArg some ((congrArg _ (show _ = ((((n + Tr.size (trF ts k ax)) + Tr.size (trF ts k p)) - 1 : Nat) : Int) by omega)).trans (wrap_in (by omega) (by omega))))) rfl rfl ?_
      refine wl_val (v := .agg #[.int .i64 (((n + Tr.size (trF ts k ax)) - 1 : Nat) : Int), .int .i64 ((((n + Tr.size (trF ts k ax)) + Tr.size (trF ts k p)) - 1 : Nat) : Int), .int .i64 0]) (fun ρ e => ex_build (cells := #[.int .i64 (((n + Tr.size (trF ts k ax)) - 1 : Nat) : Int), .int .i64 ((((n + Tr.size (trF ts k ax)) + Tr.size (trF ts k p)) - 1 : Nat) : Int), .int .i64 0]) st38 (e.parts rfl) rfl) rfl rfl ?_
      obtain ⟨g47, w48, r49, O50, hg51, hs52⟩ := own_slice O45 el23 ze38 1 [(0, .agg #[.int .i64 (((n + Tr.size (trF ts k ax)) - 1 : Nat) : Int), .int .i64 ((((n + Tr.size (trF ts k ax)) + Tr.size (trF ts k p)) - 1 : Nat) : Int), .int .i64 0])] (cs := #[.int .i64 (((n + Tr.size (trF ts k ax)) - 1 : Nat) : Int), .int .i64 ((((n + Tr.size (trF ts k ax)) + Tr.size (trF ts k p)) - 1 : Nat) : Int), .int .i64 0]) (by decide) (by kernel_rfl)
      refine wl_val (v := .slice (some ⟨g47, 0, none⟩) 1 1) (fun ρ e => r49 ρ _ _ _ _ _ _ (e.parts rfl)) rfl rfl ?_
      obtain ⟨A53, c54, w55, r56, O57, hz58, hc59⟩ := own_app1 (O50.re [1, 0, 2, 3, 4] rfl : Own Z w0 w48 [.row (.slice A41 ((n + Tr.size (trF ts k ax)) + Tr.size (trF ts k p)) c42) 38 3 ((n + Tr.size (trF ts k ax)) + Tr.size (trF ts k p)) (ncells ((l ++ post (trF ts k ax) n) ++ post (trF ts k p) (n + Tr.size (trF ts k ax)))), .blk g47 38 #[.int .i64 (((n + Tr.size (trF ts k ax)) - 1 : Nat) : Int), .int .i64 ((((n + Tr.size (trF ts k ax)) + Tr.size (trF ts k p)) - 1 : Nat) : Int), .int .i64 0], .ro D (fun w => NodesD D w (.slice (some ⟨b, o, none⟩) ts.length c0) ts), .blk g23 38 #[.int .i64 (p : Int), .int .i64 (q : Int), .int .i64 0], .blk g3 38 #[.int .i64 (ax : Int), .int .i64 (bx : Int), .int .i64 0]]) ap23 ((O50.re [1, 0, 2, 3, 4] rfl : Own Z w0 w48 [.row (.slice A41 ((n + Tr.size (trF ts k ax)) + Tr.size (trF ts k p)) c42) 38 3 ((n + Tr.size (trF ts k ax)) + Tr.size (trF ts k p)) (ncells ((l ++ post (trF ts k ax) n) ++ post (trF ts k p) (n + Tr.size (trF ts k ax)))), .blk g47 38 #[.int .i64 (((n + Tr.size (trF ts k ax)) - 1 : Nat) : Int), .int .i64 ((((n + Tr.size (trF ts k ax)) + Tr.size (trF ts k p)) - 1 : Nat) : Int), .int .i64 0], .ro D (fun w => NodesD D w (.slice (some ⟨b, o, none⟩) ts.length c0) ts), .blk g23 38 #[.int .i64 (p : Int), .int .i64 (q : Int), .int .i64 0], .blk g3 38 #[.int .i64 (ax : Int), .int .i64 (bx : Int), .int .i64 0]]).blk 1 rfl) (cells := [.int .i64 (((n + Tr.size (trF ts k ax)) - 1 : Nat) : Int), .int .i64 ((((n + Tr.size (trF ts k ax)) + Tr.size (trF ts k p)) - 1 : Nat) : Int), .int .i64 0]) rfl rfl (by omega) (by omega) (ys := (ncells (((l ++ post (trF ts k ax) n) ++ post (trF ts k p) (n + Tr.size (trF ts k ax))) ++ [(VN.mk (((n + Tr.size (trF ts k ax)) - 1 : Nat) : Int) ((((n + Tr.size (trF ts k ax)) + Tr.size (trF ts k p)) - 1 : Nat) : Int) 0)]))) (ncells_snoc ((l ++ post (trF ts k ax) n) ++ post (trF ts k p) (n + Tr.size (trF ts k ax))) (VN.mk (((n + Tr.size (trF ts k ax)) - 1 : Nat) : Int) ((((n + Tr.size (trF ts k ax)) + Tr.size (trF ts k p)) - 1 : Nat) : Int) 0))
      refine wl_val (v := .slice A53 (((n + Tr.size (trF ts k ax)) + Tr.size (trF ts k p)) + 1) c54) (fun ρ e => r56 ρ _ _ _ _ _ _ _ (e _ _ rfl) (e _ _ rfl)) rfl rfl ?_
      refine wl_val (v := .slice A53 (((n + Tr.size (trF ts k ax)) + Tr.size (trF ts k p)) + 1) c54) (fun ρ e => ex_assign (e _ _ rfl)) rfl rfl ?_
      refine wl_nil ?_
      refine xw_next K46 ?_
      refine cw_seq (fun FK60 K60 => ?_)
      refine cw_region ?_
      refine wl_val (v := .slice A53 (((n + Tr.size (trF ts k ax)) + Tr.size (trF ts k p)) + 1) c54) (fun ρ e => ex_move (e _ _ rfl)) rfl rfl ?_
      refine wl_val (v := .int .i64 ((((n + Tr.size (trF ts k ax)) + Tr.size (trF ts k p)) + 1 : Nat) : Int)) (fun ρ e => ex_len el23 (e _ _ rfl)) rfl rfl ?_
      refine wl_val (v := .int .i64 ((((n + Tr.size (trF ts k ax)) + Tr.size (trF ts k p)) + 1 - 1 : Nat) : Int)) (fun ρ e => ex_arith (k := .i64) (u := ((((n + Tr.size (trF ts k ax)) + Tr.size (trF ts k p)) + 1 : Nat) : Int)) (v := 1) (e _ _ rfl) (e _ _ rfl) (congrArg some ((congrArg _ (show _ = ((((n + Tr.size (trF ts k ax)) + Tr.size (trF ts k p)) + 1 - 1 : Nat) : Int) by omega)).trans (wrap_in (by omega) (by omega))))) rfl rfl ?_
      refine wl_val (v := .int .i64 ((((n + Tr.size (trF ts k ax)) + Tr.size (trF ts k p)) + 1 - 1 : Nat) : Int)) (fun ρ e => ex_assign (e _ _ rfl)) rfl rfl ?_
      refine wl_nil ?_
      refine xw_next K60 ?_
      refine cw_seq (fun FK61 K61 => ?_)
      refine cw_region ?_
      refine wl_val (v := .slice (some ⟨b, o, none⟩) ts.length c0) (fun ρ e => ex_move (e _ _ rfl)) rfl rfl ?_
      refine wl_val (v := .pointer (some ⟨g23, 1, none⟩)) (fun ρ e => ex_field (q := 1) fi38_1 (e _ _ rfl) rfl) rfl rfl ?_
      refine wl_val (v := .int .i64 (q : Int)) (fun ρ e => ex_load1 ty3 (e _ _ rfl) (O57.cell 3 1 rfl rfl)) rfl rfl ?_
      refine wl_val (v := .slice A53 (((n + Tr.size (trF ts k ax)) + Tr.size (trF ts k p)) + 1) c54) (fun ρ e => ex_move (e _ _ rfl)) rfl rfl ?_
      refine wl_call (args := [.slice (some ⟨b, o, none⟩) ts.length c0, .int .i64 (q : Int), .slice A53 (((n + Tr.size (trF ts k ax)) + Tr.size (trF ts k p)) + 1) c54]) in_80 rfl rfl rfl ?_
      obtain ⟨vsq, hAq⟩ := At.get hV (n := k) (j := q) (by omega) (by omega)
      have hzq := hAq.small hV
      have O66h := Own.hand (A := [.row (.slice A53 (((n + Tr.size (trF ts k ax)) + Tr.size (trF ts k p)) + 1) c54) 38 3 (((n + Tr.size (trF ts k ax)) + Tr.size (trF ts k p)) + 1) (ncells (((l ++ post (trF ts k ax) n) ++ post (trF ts k p) (n + Tr.size (trF ts k ax))) ++ [(VN.mk (((n + Tr.size (trF ts k ax)) - 1 : Nat) : Int) ((((n + Tr.size (trF ts k ax)) + Tr.size (trF ts k p)) - 1 : Nat) : Int) 0)])), .ro D (fun w => NodesD D w (.slice (some ⟨b, o, none⟩) ts.length c0) ts)]) (R := [.blk g47 38 #[.int .i64 (((n + Tr.size (trF ts k ax)) - 1 : Nat) : Int), .int .i64 ((((n + Tr.size (trF ts k ax)) + Tr.size (trF ts k p)) - 1 : Nat) : Int), .int .i64 0], .blk g23 38 #[.int .i64 (p : Int), .int .i64 (q : Int), .int .i64 0], .blk g3 38 #[.int .i64 (ax : Int), .int .i64 (bx : Int), .int .i64 0]]) (O57.re [0, 2, 1, 3, 4] rfl : Own Z w0 w55 [.row (.slice A53 (((n + Tr.size (trF ts k ax)) + Tr.size (trF ts k p)) + 1) c54) 38 3 (((n + Tr.size (trF ts k ax)) + Tr.size (trF ts k p)) + 1) (ncells (((l ++ post (trF ts k ax) n) ++ post (trF ts k p) (n + Tr.size (trF ts k ax))) ++ [(VN.mk (((n + Tr.size (trF ts k ax)) - 1 : Nat) : Int) ((((n + Tr.size (trF ts k ax)) + Tr.size (trF ts k p)) - 1 : Nat) : Int) 0)])), .ro D (fun w => NodesD D w (.slice (some ⟨b, o, none⟩) ts.length c0) ts), .blk g47 38 #[.int .i64 (((n + Tr.size (trF ts k ax)) - 1 : Nat) : Int), .int .i64 ((((n + Tr.size (trF ts k ax)) + Tr.size (trF ts k p)) - 1 : Nat) : Int), .int .i64 0], .blk g23 38 #[.int .i64 (p : Int), .int .i64 (q : Int), .int .i64 0], .blk g3 38 #[.int .i64 (ax : Int), .int .i64 (bx : Int), .int .i64 0]])
      refine (rlist_ hle hAq _ _ _ _ _ _ (((l ++ post (trF ts k ax) n) ++ post (trF ts k p) (n + Tr.size (trF ts k ax))) ++ [(VN.mk (((n + Tr.size (trF ts k ax)) - 1 : Nat) : Int) ((((n + Tr.size (trF ts k ax)) + Tr.size (trF ts k p)) - 1 : Nat) : Int) 0)]) O66h (by omega)).mono ?_
      rintro _ w64 ⟨A62, c63, rfl, h65⟩
      have O66 : Own Z w0 w64 [.row (.slice A62 (((n + Tr.size (trF ts k ax)) + Tr.size (trF ts k p)) + 1 + Tr.size (trF ts k q)) c63) 38 3 (((n + Tr.size (trF ts k ax)) + Tr.size (trF ts k p)) + 1 + Tr.size (trF ts k q)) (ncells ((((l ++ post (trF ts k ax) n) ++ post (trF ts k p) (n + Tr.size (trF ts k ax))) ++ [(VN.mk (((n + Tr.size (trF ts k ax)) - 1 : Nat) : Int) ((((n + Tr.size (trF ts k ax)) + Tr.size (trF ts k p)) - 1 : Nat) : Int) 0)]) ++ post (trF ts k q) (((n + Tr.size (trF ts k ax)) + Tr.size (trF ts k p)) + 1))), .ro D (fun w => NodesD D w (.slice (some ⟨b, o, none⟩) ts.length c0) ts), .blk g47 38 #[.int .i64 (((n + Tr.size (trF ts k ax)) - 1 : Nat) : Int), .int .i64 ((((n + Tr.size (trF ts k ax)) + Tr.size (trF ts k p)) - 1 : Nat) : Int), .int .i64 0], .blk g23 38 #[.int .i64 (p : Int), .int .i64 (q : Int), .int .i64 0], .blk g3 38 #[.int .i64 (ax : Int), .int .i64 (bx : Int), .int .i64 0]] := Own.frame (A := [.row (.slice A53 (((n + Tr.size (trF ts k ax)) + Tr.size (trF ts k p)) + 1) c54) 38 3 (((n + Tr.size (trF ts k ax)) + Tr.size (trF ts k p)) + 1) (ncells (((l ++ post (trF ts k ax) n) ++ post (trF ts k p) (n + Tr.size (trF ts k ax))) ++ [(VN.mk (((n + Tr.size (trF ts k ax)) - 1 : Nat) : Int) ((((n + Tr.size (trF ts k ax)) + Tr.size (trF ts k p)) - 1 : Nat) : Int) 0)])), .ro D (fun w => NodesD D w (.slice (some ⟨b, o, none⟩) ts.length c0) ts)]) (R := [.blk g47 38 #[.int .i64 (((n + Tr.size (trF ts k ax)) - 1 : Nat) : Int), .int .i64 ((((n + Tr.size (trF ts k ax)) + Tr.size (trF ts k p)) - 1 : Nat) : Int), .int .i64 0], .blk g23 38 #[.int .i64 (p : Int), .int .i64 (q : Int), .int .i64 0], .blk g3 38 #[.int .i64 (ax : Int), .int .i64 (bx : Int), .int .i64 0]]) (O57.re [0, 2, 1, 3, 4] rfl : Own Z w0 w55 [.row (.slice A53 (((n + Tr.size (trF ts k ax)) + Tr.size (trF ts k p)) + 1) c54) 38 3 (((n + Tr.size (trF ts k ax)) + Tr.size (trF ts k p)) + 1) (ncells (((l ++ post (trF ts k ax) n) ++ post (trF ts k p) (n + Tr.size (trF ts k ax))) ++ [(VN.mk (((n + Tr.size (trF ts k ax)) - 1 : Nat) : Int) ((((n + Tr.size (trF ts k ax)) + Tr.size (trF ts k p)) - 1 : Nat) : Int) 0)])), .ro D (fun w => NodesD D w (.slice (some ⟨b, o, none⟩) ts.length c0) ts), .blk g47 38 #[.int .i64 (((n + Tr.size (trF ts k ax)) - 1 : Nat) : Int), .int .i64 ((((n + Tr.size (trF ts k ax)) + Tr.size (trF ts k p)) - 1 : Nat) : Int), .int .i64 0], .blk g23 38 #[.int .i64 (p : Int), .int .i64 (q : Int), .int .i64 0], .blk g3 38 #[.int .i64 (ax : Int), .int .i64 (bx : Int), .int .i64 0]]) h65
      refine ⟨_, rfl, ?_⟩
      refine wl_val (v := .slice A62 (((n + Tr.size (trF ts k ax)) + Tr.size (trF ts k p)) + 1 + Tr.size (trF ts k q)) c63) (fun ρ e => ex_assign (e _ _ rfl)) rfl rfl ?_
      refine wl_nil ?_
      refine xw_next K61 ?_
      refine cw_seq (fun FK67 K67 => ?_)
      refine cw_region ?_
      refine wl_val (v := .slice A62 (((n + Tr.size (trF ts k ax)) + Tr.size (trF ts k p)) + 1 + Tr.size (trF ts k q)) c63) (fun ρ e => ex_move (e _ _ rfl)) rfl rfl ?_
      refine wl_val (v := .int .i64 ((((n + Tr.size (trF ts k ax)) + Tr.size (trF ts k p)) + 1 - 1 : Nat) : Int)) (fun ρ e => ex_move (e _ _ rfl)) rfl rfl ?_
      refine wl_val (v := .slice A62 (((n + Tr.size (trF ts k ax)) + Tr.size (trF ts k p)) + 1 + Tr.size (trF ts k q)) c63) (fun ρ e => ex_move (e _ _ rfl)) rfl rfl ?_
      refine wl_val (v := .int .i64 (((((n + Tr.size (trF ts k ax)) + Tr.size (trF ts k p)) + 1 + Tr.size (trF ts k q)) : Nat) : Int)) (fun ρ e => ex_len el23 (e _ _ rfl)) rfl rfl ?_
      refine wl_val (v := .int .i64 (((((n + Tr.size (trF ts k ax)) + Tr.size (trF ts k p)) + 1 + Tr.size (trF ts k q)) - 1 : Nat) : Int)) (fun ρ e => ex_arith (k := .i64) (u := (((((n + Tr.size (trF ts k ax)) + Tr.size (trF ts k p)) + 1 + Tr.size (trF ts k q)) : Nat) : Int)) (v := 1) (e _ _ rfl) (e _ _ rfl) (congrArg some ((congrArg _ (show _ = (((((n + Tr.size (trF ts k ax)) + Tr.size (trF ts k p)) + 1 + Tr.size (trF ts k q)) - 1 : Nat) : Int) by omega)).trans (wrap_in (by omega) (by omega))))) rfl rfl ?_
      refine wl_val (v := .agg #[.int .i64 ((((n + Tr.size (trF ts k ax)) + Tr.size (trF ts k p)) + 1 - 1 : Nat) : Int), .int .i64 (((((n + Tr.size (trF ts k ax)) + Tr.size (trF ts k p)) + 1 + Tr.size (trF ts k q)) - 1 : Nat) : Int), .int .i64 0]) (fun ρ e => ex_build (cells := #[.int .i64 ((((n + Tr.size (trF ts k ax)) + Tr.size (trF ts k p)) + 1 - 1 : Nat) : Int), .int .i64 (((((n + Tr.size (trF ts k ax)) + Tr.size (trF ts k p)) + 1 + Tr.size (trF ts k q)) - 1 : Nat) : Int), .int .i64 0]) st38 (e.parts rfl) rfl) rfl rfl ?_
      obtain ⟨g68, w69, r70, O71, hg72, hs73⟩ := own_slice O66 el23 ze38 1 [(0, .agg #[.int .i64 ((((n + Tr.size (trF ts k ax)) + Tr.size (trF ts k p)) + 1 - 1 : Nat) : Int), .int .i64 (((((n + Tr.size (trF ts k ax)) + Tr.size (trF ts k p)) + 1 + Tr.size (trF ts k q)) - 1 : Nat) : Int), .int .i64 0])] (cs := #[.int .i64 ((((n + Tr.size (trF ts k ax)) + Tr.size (trF ts k p)) + 1 - 1 : Nat) : Int), .int .i64 (((((n + Tr.size (trF ts k ax)) + Tr.size (trF ts k p)) + 1 + Tr.size (trF ts k q)) - 1 : Nat) : Int), .int .i64 0]) (by decide) (by kernel_rfl)
      refine wl_val (v := .slice (some ⟨g68, 0, none⟩) 1 1) (fun ρ e => r70 ρ _ _ _ _ _ _ (e.parts rfl)) rfl rfl ?_
      obtain ⟨A74, c75, w76, r77, O78, hz79, hc80⟩ := own_app1 (O71.re [1, 0, 2, 3, 4, 5] rfl : Own Z w0 w69 [.row (.slice A62 (((n + Tr.size (trF ts k ax)) + Tr.size (trF ts k p)) + 1 + Tr.size (trF ts k q)) c63) 38 3 (((n + Tr.size (trF ts k ax)) + Tr.size (trF ts k p)) + 1 + Tr.size (trF ts k q)) (ncells ((((l ++ post (trF ts k ax) n) ++ post (trF ts k p) (n + Tr.size (trF ts k ax))) ++ [(VN.mk (((n + Tr.size (trF ts k ax)) - 1 : Nat) : Int) ((((n + Tr.size (trF ts k ax)) + Tr.size (trF ts k p)) - 1 : Nat) : Int) 0)]) ++ post (trF ts k q) (((n + Tr.size (trF ts k ax)) + Tr.size (trF ts k p)) + 1))), .blk g68 38 #[.int .i64 ((((n + Tr.size (trF ts k ax)) + Tr.size (trF ts k p)) + 1 - 1 : Nat) : Int), .int .i64 (((((n + Tr.size (trF ts k ax)) + Tr.size (trF ts k p)) + 1 + Tr.size (trF ts k q)) - 1 : Nat) : Int), .int .i64 0], .ro D (fun w => NodesD D w (.slice (some ⟨b, o, none⟩) ts.length c0) ts), .blk g47 38 #[.int .i64 (((n + Tr.size (trF ts k ax)) - 1 : Nat) : Int), .int .i64 ((((n + Tr.size (trF ts k ax)) + Tr.size (trF ts k p)) - 1 : Nat) : Int), .int .i64 0], .blk g23 38 #[.int .i64 (p : Int), .int .i64 (q : Int), .int .i64 0], .blk g3 38 #[.int .i64 (ax : Int), .int .i64 (bx : Int), .int .i64 0]]) ap23 ((O71.re [1, 0, 2, 3, 4, 5] rfl : Own Z w0 w69 [.row (.slice A62 (((n + Tr.size (trF ts k ax)) + Tr.size (trF ts k p)) + 1 + Tr.size (trF ts k q)) c63) 38 3 (((n + Tr.size (trF ts k ax)) + Tr.size (trF ts k p)) + 1 + Tr.size (trF ts k q)) (ncells ((((l ++ post (trF ts k ax) n) ++ post (trF ts k p) (n + Tr.size (trF ts k ax))) ++ [(VN.mk (((n + Tr.size (trF ts k ax)) - 1 : Nat) : Int) ((((n + Tr.size (trF ts k ax)) + Tr.size (trF ts k p)) - 1 : Nat) : Int) 0)]) ++ post (trF ts k q) (((n + Tr.size (trF ts k ax)) + Tr.size (trF ts k p)) + 1))), .blk g68 38 #[.int .i64 ((((n + Tr.size (trF ts k ax)) + Tr.size (trF ts k p)) + 1 - 1 : Nat) : Int), .int .i64 (((((n + Tr.size (trF ts k ax)) + Tr.size (trF ts k p)) + 1 + Tr.size (trF ts k q)) - 1 : Nat) : Int), .int .i64 0], .ro D (fun w => NodesD D w (.slice (some ⟨b, o, none⟩) ts.length c0) ts), .blk g47 38 #[.int .i64 (((n + Tr.size (trF ts k ax)) - 1 : Nat) : Int), .int .i64 ((((n + Tr.size (trF ts k ax)) + Tr.size (trF ts k p)) - 1 : Nat) : Int), .int .i64 0], .blk g23 38 #[.int .i64 (p : Int), .int .i64 (q : Int), .int .i64 0], .blk g3 38 #[.int .i64 (ax : Int), .int .i64 (bx : Int), .int .i64 0]]).blk 1 rfl) (cells := [.int .i64 ((((n + Tr.size (trF ts k ax)) + Tr.size (trF ts k p)) + 1 - 1 : Nat) : Int), .int .i64 (((((n + Tr.size (trF ts k ax)) + Tr.size (trF ts k p)) + 1 + Tr.size (trF ts k q)) - 1 : Nat) : Int), .int .i64 0]) rfl rfl (by omega) (by omega) (ys := (ncells (((((l ++ post (trF ts k ax) n) ++ post (trF ts k p) (n + Tr.size (trF ts k ax))) ++ [(VN.mk (((n + Tr.size (trF ts k ax)) - 1 : Nat) : Int) ((((n + Tr.size (trF ts k ax)) + Tr.size (trF ts k p)) - 1 : Nat) : Int) 0)]) ++ post (trF ts k q) (((n + Tr.size (trF ts k ax)) + Tr.size (trF ts k p)) + 1)) ++ [(VN.mk ((((n + Tr.size (trF ts k ax)) + Tr.size (trF ts k p)) + 1 - 1 : Nat) : Int) (((((n + Tr.size (trF ts k ax)) + Tr.size (trF ts k p)) + 1 + Tr.size (trF ts k q)) - 1 : Nat) : Int) 0)]))) (ncells_snoc ((((l ++ post (trF ts k ax) n) ++ post (trF ts k p) (n + Tr.size (trF ts k ax))) ++ [(VN.mk (((n + Tr.size (trF ts k ax)) - 1 : Nat) : Int) ((((n + Tr.size (trF ts k ax)) + Tr.size (trF ts k p)) - 1 : Nat) : Int) 0)]) ++ post (trF ts k q) (((n + Tr.size (trF ts k ax)) + Tr.size (trF ts k p)) + 1)) (VN.mk ((((n + Tr.size (trF ts k ax)) + Tr.size (trF ts k p)) + 1 - 1 : Nat) : Int) (((((n + Tr.size (trF ts k ax)) + Tr.size (trF ts k p)) + 1 + Tr.size (trF ts k q)) - 1 : Nat) : Int) 0))
      refine wl_val (v := .slice A74 ((((n + Tr.size (trF ts k ax)) + Tr.size (trF ts k p)) + 1 + Tr.size (trF ts k q)) + 1) c75) (fun ρ e => r77 ρ _ _ _ _ _ _ _ (e _ _ rfl) (e _ _ rfl)) rfl rfl ?_
      refine wl_val (v := .slice A74 ((((n + Tr.size (trF ts k ax)) + Tr.size (trF ts k p)) + 1 + Tr.size (trF ts k q)) + 1) c75) (fun ρ e => ex_assign (e _ _ rfl)) rfl rfl ?_
      refine wl_nil ?_
      refine xw_next K67 ?_
      refine cw_ret ?_
      refine xw_past (by intro h; cases h) ?_
      refine xw_ret (v := .slice A74 ((((n + Tr.size (trF ts k ax)) + Tr.size (trF ts k p)) + 1 + Tr.size (trF ts k q)) + 1) c75) (fun T hT => res1 rfl T _ (hT 10 _ rfl)) ?_
      have hn : (((n + Tr.size (trF ts k ax)) + Tr.size (trF ts k p)) + 1 + Tr.size (trF ts k q)) + 1 = n + Tr.size (chT ts 2 at_ (k + 1) at_) := by rw [hT]; simp only [Tr.size] <;> omega
      have hl : (((((l ++ post (trF ts k ax) n) ++ post (trF ts k p) (n + Tr.size (trF ts k ax))) ++ [(VN.mk (((n + Tr.size (trF ts k ax)) - 1 : Nat) : Int) ((((n + Tr.size (trF ts k ax)) + Tr.size (trF ts k p)) - 1 : Nat) : Int) 0)]) ++ post (trF ts k q) (((n + Tr.size (trF ts k ax)) + Tr.size (trF ts k p)) + 1)) ++ [(VN.mk ((((n + Tr.size (trF ts k ax)) + Tr.size (trF ts k p)) + 1 - 1 : Nat) : Int) (((((n + Tr.size (trF ts k ax)) + Tr.size (trF ts k p)) + 1 + Tr.size (trF ts k q)) - 1 : Nat) : Int) 0)]) = l ++ post (chT ts 2 at_ (k + 1) at_) n := by rw [hT]; simp [post, Tr.size, Nat.add_assoc]
      have hO := (O78.re [0, 2] rfl : Own Z w0 w76 [.row (.slice A74 ((((n + Tr.size (trF ts k ax)) + Tr.size (trF ts k p)) + 1 + Tr.size (trF ts k q)) + 1) c75) 38 3 ((((n + Tr.size (trF ts k ax)) + Tr.size (trF ts k p)) + 1 + Tr.size (trF ts k q)) + 1) (ncells (((((l ++ post (trF ts k ax) n) ++ post (trF ts k p) (n + Tr.size (trF ts k ax))) ++ [(VN.mk (((n + Tr.size (trF ts k ax)) - 1 : Nat) : Int) ((((n + Tr.size (trF ts k ax)) + Tr.size (trF ts k p)) - 1 : Nat) : Int) 0)]) ++ post (trF ts k q) (((n + Tr.size (trF ts k ax)) + Tr.size (trF ts k p)) + 1)) ++ [(VN.mk ((((n + Tr.size (trF ts k ax)) + Tr.size (trF ts k p)) + 1 - 1 : Nat) : Int) (((((n + Tr.size (trF ts k ax)) + Tr.size (trF ts k p)) + 1 + Tr.size (trF ts k q)) - 1 : Nat) : Int) 0)])), .ro D (fun w => NodesD D w (.slice (some ⟨b, o, none⟩) ts.length c0) ts)])
      rw [hn, hl] at hO
      exact ⟨A74, c75, by rw [hn], hO⟩
theorem rchanged2 {ts : List VN} {D : Nat → Prop} {b o c0 at_ ax bx p q : Nat} (hV : Val ts) (hle : ts.length ≤ 255) (hat : ts[at_]? = some ⟨(ax : Int), (bx : Int), 0⟩) (hlow : ts[bx]? = some ⟨(p : Int), (q : Int), 0⟩) : ∀ (k i : Nat), i < k → i < ts.length → ∀ (Z : Bool → Nat → Prop) (w0 W : World) (A : Option Addr) (n c : Nat) (l : List VN), Own Z w0 W [.row (.slice A n c) 38 3 n (ncells l), .ro D (fun w => NodesD D w (.slice (some ⟨b, o, none⟩) ts.length c0) ts)] → n + Tr.size (chT ts 2 at_ k i) ≤ 10000 →
    Calls Tryd.prog 65 #[.slice (some ⟨b, o, none⟩) ts.length c0, .int .i64 (i : Int), .int .i64 (at_ : Int), .int .i64 2, .slice A n c] W fun e w' => ∃ A' c', e = .returned (.slice A' (n + Tr.size (chT ts 2 at_ k i)) c') ∧ Own Z w0 w' [.row (.slice A' (n + Tr.size (chT ts 2 at_ k i)) c') 38 3 (n + Tr.size (chT ts 2 at_ k i)) (ncells (l ++ post (chT ts 2 at_ k i) n)), .ro D (fun w => NodesD D w (.slice (some ⟨b, o, none⟩) ts.length c0) ts)]
  | 0, _, h, _ => absurd h (Nat.not_lt_zero _)
  | k + 1, i, hik, hi => fun Z w0 W A n c l O0 hlim => by
    have IH := rchanged2 (b := b) (o := o) (c0 := c0) (D := D) hV hle hat hlow k
    rcases hV.kind i _ (List.getElem?_eq_getElem hi) with ⟨v, hx0, h1, h2⟩ | ⟨a, b2, hx0, ha, hb, hab⟩
    · have hx : ts[i]? = some ⟨-1, -1, v⟩ := by rw [List.getElem?_eq_getElem hi, hx0]
      have hlf : lf (VN.mk (-1) (-1) v) = true := lf_leaf h1 h2
      have hT : (chT ts 2 at_ (k + 1) i) = .leaf v := chT_leaf hx h1 h2
      rw [hT] at hlim
      simp only [Tr.size] at hlim
      refine sx_enter (args := [.slice (some ⟨b, o, none⟩) ts.length c0, .int .i64 (i : Int), .int .i64 (at_ : Int), .int .i64 2, .slice A n c]) Tryd.func65 rfl rfl (by simp) ?_
      refine cw_seq (fun FK1 K1 => ?_)
      refine cw_region ?_
      refine wl_val (v := .slice none 0 0) (fun ρ e => ex_assign (e _ _ rfl)) rfl rfl ?_
      refine wl_nil ?_
      refine xw_next K1 ?_
      refine cw_seq (fun FK2 K2 => ?_)
      refine cw_region ?_
      refine wl_val (v := .slice (some ⟨b, o, none⟩) ts.length c0) (fun ρ e => ex_move (e _ _ rfl)) rfl rfl ?_
      refine wl_val (v := .int .i64 (i : Int)) (fun ρ e => ex_move (e _ _ rfl)) rfl rfl ?_
      refine wl_val (v := .pointer (some ⟨b, o + i * 3, none⟩)) (fun ρ e => ex_idx (q := o + i * 3) (i := i) el23 (e _ _ rfl) (e _ _ rfl) (by omega) (by omega)) rfl rfl ?_
      refine wl_val (v := .agg #[.int .i64 (-1), .int .i64 (-1), .int .i64 v]) (fun ρ e => ex_loadN (vs := [.int .i64 (-1), .int .i64 (-1), .int .i64 v]) ty38 (e _ _ rfl) rfl (cells3 (NodesD.c0 ((O0.ro 1 rfl : (fun w => NodesD D w (.slice (some ⟨b, o, none⟩) ts.length c0) ts) _) : NodesD _ _ _ _) hx) (NodesD.c1 ((O0.ro 1 rfl : (fun w => NodesD D w (.slice (some ⟨b, o, none⟩) ts.length c0) ts) _) : NodesD _ _ _ _) hx) (NodesD.c2 ((O0.ro 1 rfl : (fun w => NodesD D w (.slice (some ⟨b, o, none⟩) ts.length c0) ts) _) : NodesD _ _ _ _) hx))) rfl rfl ?_
      obtain ⟨g3, w4, r5, O6, hg7, hs8⟩ := own_alloc O0 38 ze38 rfl
      refine wl_val (v := .pointer (some ⟨g3, 0, none⟩)) (fun ρ e => r5 ρ _ _ _ _ _) rfl rfl ?_
      obtain ⟨w9, r10, O11, hs12⟩ := own_put (o := 0) (n := 3) O6 ty38 (.agg #[.int .i64 (-1), .int .i64 (-1), .int .i64 v]) [.int .i64 (-1), .int .i64 (-1), .int .i64 v] (cs' := #[.int .i64 (-1), .int .i64 (-1), .int .i64 v]) rfl rfl rfl (Nat.le_of_ble_eq_true rfl) rfl
      refine wl_none (fun ρ e => r10 ρ _ _ _ _ _ _ (e _ _ rfl) (e _ _ rfl)) rfl ?_
      refine wl_nil ?_
      refine xw_next K2 ?_
      refine cw_seq (fun FK13 K13 => ?_)
      refine cw_seq (fun FK14 K14 => ?_)
      refine cw_region ?_
      refine wl_val (v := .agg #[.int .i64 (-1), .int .i64 (-1), .int .i64 v]) (fun ρ e => ex_loadN (vs := [.int .i64 (-1), .int .i64 (-1), .int .i64 v]) ty38 (e _ _ rfl) rfl (O11.cells 0 0 rfl rfl)) rfl rfl ?_
      refine wl_call (args := [.agg #[.int .i64 (-1), .int .i64 (-1), .int .i64 v]]) in_72 rfl rfl rfl ?_
      refine (rleaf_ (VN.mk (-1) (-1) v) (W := w9)).mono ?_
      rintro _ w15 ⟨rfl, hb16⟩
      have O17 : Own Z w0 w15 [.blk g3 38 #[.int .i64 (-1), .int .i64 (-1), .int .i64 v], .row (.slice A n c) 38 3 n (ncells l), .ro D (fun w => NodesD D w (.slice (some ⟨b, o, none⟩) ts.length c0) ts)] := O11.below hb16
      refine ⟨_, rfl, ?_⟩
      refine wl_nil ?_
      refine xw_next K14 ?_
      refine cw_true (congrArg (fun b => some (Value.bool b)) hlf) ?_
      refine cw_seq (fun FK18 K18 => ?_)
      refine cw_region ?_
      refine wl_val (v := .slice A n c) (fun ρ e => ex_move (e _ _ rfl)) rfl rfl ?_
      refine wl_val (v := .agg #[.int .i64 (-1), .int .i64 (-1), .int .i64 v]) (fun ρ e => ex_loadN (vs := [.int .i64 (-1), .int .i64 (-1), .int .i64 v]) ty38 (e _ _ rfl) rfl (O17.cells 0 0 rfl rfl)) rfl rfl ?_
      obtain ⟨g19, w20, r21, O22, hg23, hs24⟩ := own_slice O17 el23 ze38 1 [(0, .agg #[.int .i64 (-1), .int .i64 (-1), .int .i64 v])] (cs := #[.int .i64 (-1), .int .i64 (-1), .int .i64 v]) (by decide) (by kernel_rfl)
      refine wl_val (v := .slice (some ⟨g19, 0, none⟩) 1 1) (fun ρ e => r21 ρ _ _ _ _ _ _ (e.parts rfl)) rfl rfl ?_
      obtain ⟨A25, c26, w27, r28, O29, hz30, hc31⟩ := own_app1 (O22.re [2, 0, 1, 3] rfl : Own Z w0 w20 [.row (.slice A n c) 38 3 n (ncells l), .blk g19 38 #[.int .i64 (-1), .int .i64 (-1), .int .i64 v], .blk g3 38 #[.int .i64 (-1), .int .i64 (-1), .int .i64 v], .ro D (fun w => NodesD D w (.slice (some ⟨b, o, none⟩) ts.length c0) ts)]) ap23 ((O22.re [2, 0, 1, 3] rfl : Own Z w0 w20 [.row (.slice A n c) 38 3 n (ncells l), .blk g19 38 #[.int .i64 (-1), .int .i64 (-1), .int .i64 v], .blk g3 38 #[.int .i64 (-1), .int .i64 (-1), .int .i64 v], .ro D (fun w => NodesD D w (.slice (some ⟨b, o, none⟩) ts.length c0) ts)]).blk 1 rfl) (cells := [.int .i64 (-1), .int .i64 (-1), .int .i64 v]) rfl rfl (by omega) (by omega) (ys := (ncells (l ++ [(VN.mk (-1) (-1) v)]))) (ncells_snoc l (VN.mk (-1) (-1) v))
      refine wl_val (v := .slice A25 (n + 1) c26) (fun ρ e => r28 ρ _ _ _ _ _ _ _ (e _ _ rfl) (e _ _ rfl)) rfl rfl ?_
      refine wl_val (v := .slice A25 (n + 1) c26) (fun ρ e => ex_assign (e _ _ rfl)) rfl rfl ?_
      refine wl_nil ?_
      refine xw_next K18 ?_
      refine cw_ret ?_
      refine xw_past (by intro h; cases h) ?_
      refine xw_ret (v := .slice A25 (n + 1) c26) (fun T hT => res1 rfl T _ (hT 10 _ rfl)) ?_
      have hn : n + 1 = n + Tr.size (chT ts 2 at_ (k + 1) i) := by rw [hT]; simp only [Tr.size] <;> omega
      have hl : (l ++ [(VN.mk (-1) (-1) v)]) = l ++ post (chT ts 2 at_ (k + 1) i) n := by rw [hT]; simp [post, Tr.size, Nat.add_assoc]
      have hO := (O29.re [0, 3] rfl : Own Z w0 w27 [.row (.slice A25 (n + 1) c26) 38 3 (n + 1) (ncells (l ++ [(VN.mk (-1) (-1) v)])), .ro D (fun w => NodesD D w (.slice (some ⟨b, o, none⟩) ts.length c0) ts)])
      rw [hn, hl] at hO
      exact ⟨A25, c26, by rw [hn], hO⟩
    · have hx : ts[i]? = some ⟨(a : Int), (b2 : Int), 0⟩ := by rw [List.getElem?_eq_getElem hi, hx0]
      by_cases hne : i = at_
      · subst hne
        exact rchg2_at hV hle hat hlow hik hi IH Z w0 W A n c l O0 hlim
      · skip
        have hlf : lf (VN.mk (a : Int) (b2 : Int) 0) = false := lf_inner a b2
        have hT : (chT ts 2 at_ (k + 1) i) = .node (chT ts 2 at_ k a) (chT ts 2 at_ k b2) := chT_node hx hne
        have hsa := Tr.size_pos (chT ts 2 at_ k a)
        have hsb := Tr.size_pos (chT ts 2 at_ k b2)
        rw [hT] at hlim
        simp only [Tr.size] at hlim
        refine sx_enter (args := [.slice (some ⟨b, o, none⟩) ts.length c0, .int .i64 (i : Int), .int .i64 (at_ : Int), .int .i64 2, .slice A n c]) Tryd.func65 rfl rfl (by simp) ?_
        refine cw_seq (fun FK1 K1 => ?_)
        refine cw_region ?_
        refine wl_val (v := .slice none 0 0) (fun ρ e => ex_assign (e _ _ rfl)) rfl rfl ?_
        refine wl_nil ?_
        refine xw_next K1 ?_
        refine cw_seq (fun FK2 K2 => ?_)
        refine cw_region ?_
        refine wl_val (v := .slice (some ⟨b, o, none⟩) ts.length c0) (fun ρ e => ex_move (e _ _ rfl)) rfl rfl ?_
        refine wl_val (v := .int .i64 (i : Int)) (fun ρ e => ex_move (e _ _ rfl)) rfl rfl ?_
        refine wl_val (v := .pointer (some ⟨b, o + i * 3, none⟩)) (fun ρ e => ex_idx (q := o + i * 3) (i := i) el23 (e _ _ rfl) (e _ _ rfl) (by omega) (by omega)) rfl rfl ?_
        refine wl_val (v := .agg #[.int .i64 (a : Int), .int .i64 (b2 : Int), .int .i64 0]) (fun ρ e => ex_loadN (vs := [.int .i64 (a : Int), .int .i64 (b2 : Int), .int .i64 0]) ty38 (e _ _ rfl) rfl (cells3 (NodesD.c0 ((O0.ro 1 rfl : (fun w => NodesD D w (.slice (some ⟨b, o, none⟩) ts.length c0) ts) _) : NodesD _ _ _ _) hx) (NodesD.c1 ((O0.ro 1 rfl : (fun w => NodesD D w (.slice (some ⟨b, o, none⟩) ts.length c0) ts) _) : NodesD _ _ _ _) hx) (NodesD.c2 ((O0.ro 1 rfl : (fun w => NodesD D w (.slice (some ⟨b, o, none⟩) ts.length c0) ts) _) : NodesD _ _ _ _) hx))) rfl rfl ?_
        obtain ⟨g3, w4, r5, O6, hg7, hs8⟩ := own_alloc O0 38 ze38 rfl
        refine wl_val (v := .pointer (some ⟨g3, 0, none⟩)) (fun ρ e => r5 ρ _ _ _ _ _) rfl rfl ?_
        obtain ⟨w9, r10, O11, hs12⟩ := own_put (o := 0) (n := 3) O6 ty38 (.agg #[.int .i64 (a : Int), .int .i64 (b2 : Int), .int .i64 0]) [.int .i64 (a : Int), .int .i64 (b2 : Int), .int .i64 0] (cs' := #[.int .i64 (a : Int), .int .i64 (b2 : Int), .int .i64 0]) rfl rfl rfl (Nat.le_of_ble_eq_true rfl) rfl
        refine wl_none (fun ρ e => r10 ρ _ _ _ _ _ _ (e _ _ rfl) (e _ _ rfl)) rfl ?_
        refine wl_nil ?_
        refine xw_next K2 ?_
        refine cw_seq (fun FK13 K13 => ?_)
        refine cw_seq (fun FK14 K14 => ?_)
        refine cw_region ?_
        refine wl_val (v := .agg #[.int .i64 (a : Int), .int .i64 (b2 : Int), .int .i64 0]) (fun ρ e => ex_loadN (vs := [.int .i64 (a : Int), .int .i64 (b2 : Int), .int .i64 0]) ty38 (e _ _ rfl) rfl (O11.cells 0 0 rfl rfl)) rfl rfl ?_
        refine wl_call (args := [.agg #[.int .i64 (a : Int), .int .i64 (b2 : Int), .int .i64 0]]) in_72 rfl rfl rfl ?_
        refine (rleaf_ (VN.mk (a : Int) (b2 : Int) 0) (W := w9)).mono ?_
        rintro _ w15 ⟨rfl, hb16⟩
        have O17 : Own Z w0 w15 [.blk g3 38 #[.int .i64 (a : Int), .int .i64 (b2 : Int), .int .i64 0], .row (.slice A n c) 38 3 n (ncells l), .ro D (fun w => NodesD D w (.slice (some ⟨b, o, none⟩) ts.length c0) ts)] := O11.below hb16
        refine ⟨_, rfl, ?_⟩
        refine wl_nil ?_
        refine xw_next K14 ?_
        refine cw_false (congrArg (fun b => some (Value.bool b)) hlf) ?_
        refine cw_skip ?_
        refine xw_next K13 ?_
        refine cw_seq (fun FK18 K18 => ?_)
        refine cw_seq (fun FK19 K19 => ?_)
        refine cw_region ?_
        refine wl_val (v := .int .i64 (i : Int)) (fun ρ e => ex_move (e _ _ rfl)) rfl rfl ?_
        refine wl_val (v := .int .i64 (at_ : Int)) (fun ρ e => ex_move (e _ _ rfl)) rfl rfl ?_
        refine wl_val (v := .bool false) (fun ρ e => ex_cmp (u := (i : Int)) (v := (at_ : Int)) (e _ _ rfl) (e _ _ rfl) (eql0 (by omega))) rfl rfl ?_
        refine wl_val (v := .bool false) (fun ρ e => ex_move (e _ _ rfl)) rfl rfl ?_
        refine wl_skip rfl rfl ?_
        refine wl_skip rfl rfl ?_
        refine wl_val (v := .bool false) (fun ρ e => ex_pick0 (e _ _ rfl) (e _ _ rfl)) rfl rfl ?_
        refine wl_nil ?_
        refine xw_next K19 ?_
        refine cw_false rfl ?_
        refine cw_skip ?_
        refine xw_next K18 ?_
        refine cw_seq (fun FK20 K20 => ?_)
        refine cw_seq (fun FK21 K21 => ?_)
        refine cw_region ?_
        refine wl_val (v := .int .i64 (i : Int)) (fun ρ e => ex_move (e _ _ rfl)) rfl rfl ?_
        refine wl_val (v := .int .i64 (at_ : Int)) (fun ρ e => ex_move (e _ _ rfl)) rfl rfl ?_
        refine wl_val (v := .bool false) (fun ρ e => ex_cmp (u := (i : Int)) (v := (at_ : Int)) (e _ _ rfl) (e _ _ rfl) (eql0 (by omega))) rfl rfl ?_
        refine wl_val (v := .bool false) (fun ρ e => ex_move (e _ _ rfl)) rfl rfl ?_
        refine wl_skip rfl rfl ?_
        refine wl_skip rfl rfl ?_
        refine wl_val (v := .bool false) (fun ρ e => ex_pick0 (e _ _ rfl) (e _ _ rfl)) rfl rfl ?_
        refine wl_nil ?_
        refine xw_next K21 ?_
        refine cw_false rfl ?_
        refine cw_skip ?_
        refine xw_next K20 ?_
        refine cw_seq (fun FK22 K22 => ?_)
        refine cw_region ?_
        refine wl_val (v := .pointer (some ⟨g3, 0, none⟩)) (fun ρ e => ex_field (q := 0) fi38_0 (e _ _ rfl) rfl) rfl rfl ?_
        refine wl_val (v := .int .i64 (a : Int)) (fun ρ e => ex_load1 ty3 (e _ _ rfl) (O17.cell 0 0 rfl rfl)) rfl rfl ?_
        refine wl_val (v := .int .i64 (a : Int)) (fun ρ e => ex_assign (e _ _ rfl)) rfl rfl ?_
        refine wl_nil ?_
        refine xw_next K22 ?_
        refine cw_seq (fun FK23 K23 => ?_)
        refine cw_region ?_
        refine wl_val (v := .pointer (some ⟨g3, 1, none⟩)) (fun ρ e => ex_field (q := 1) fi38_1 (e _ _ rfl) rfl) rfl rfl ?_
        refine wl_val (v := .int .i64 (b2 : Int)) (fun ρ e => ex_load1 ty3 (e _ _ rfl) (O17.cell 0 1 rfl rfl)) rfl rfl ?_
        refine wl_val (v := .int .i64 (b2 : Int)) (fun ρ e => ex_assign (e _ _ rfl)) rfl rfl ?_
        refine wl_nil ?_
        refine xw_next K23 ?_
        refine cw_seq (fun FK24 K24 => ?_)
        refine cw_seq (fun FK25 K25 => ?_)
        refine cw_region ?_
        refine wl_val (v := .int .i64 (i : Int)) (fun ρ e => ex_move (e _ _ rfl)) rfl rfl ?_
        refine wl_val (v := .int .i64 (at_ : Int)) (fun ρ e => ex_move (e _ _ rfl)) rfl rfl ?_
        refine wl_val (v := .bool false) (fun ρ e => ex_cmp (u := (i : Int)) (v := (at_ : Int)) (e _ _ rfl) (e _ _ rfl) (eql0 (by omega))) rfl rfl ?_
        refine wl_val (v := .bool false) (fun ρ e => ex_move (e _ _ rfl)) rfl rfl ?_
        refine wl_skip rfl rfl ?_
        refine wl_skip rfl rfl ?_
        refine wl_val (v := .bool false) (fun ρ e => ex_pick0 (e _ _ rfl) (e _ _ rfl)) rfl rfl ?_
        refine wl_nil ?_
        refine xw_next K25 ?_
        refine cw_false rfl ?_
        refine cw_skip ?_
        refine xw_next K24 ?_
        refine cw_seq (fun FK26 K26 => ?_)
        refine cw_region ?_
        refine wl_val (v := .slice (some ⟨b, o, none⟩) ts.length c0) (fun ρ e => ex_move (e _ _ rfl)) rfl rfl ?_
        refine wl_val (v := .int .i64 (a : Int)) (fun ρ e => ex_move (e _ _ rfl)) rfl rfl ?_
        refine wl_val (v := .int .i64 (at_ : Int)) (fun ρ e => ex_move (e _ _ rfl)) rfl rfl ?_
        refine wl_val (v := .int .i64 2) (fun ρ e => ex_move (e _ _ rfl)) rfl rfl ?_
        refine wl_val (v := .slice A n c) (fun ρ e => ex_move (e _ _ rfl)) rfl rfl ?_
        refine wl_call (args := [.slice (some ⟨b, o, none⟩) ts.length c0, .int .i64 (a : Int), .int .i64 (at_ : Int), .int .i64 2, .slice A n c]) in_65 rfl rfl rfl ?_
        have O31h := Own.hand (A := [.row (.slice A n c) 38 3 n (ncells l), .ro D (fun w => NodesD D w (.slice (some ⟨b, o, none⟩) ts.length c0) ts)]) (R := [.blk g3 38 #[.int .i64 (a : Int), .int .i64 (b2 : Int), .int .i64 0]]) (O17.re [1, 2, 0] rfl : Own Z w0 w15 [.row (.slice A n c) 38 3 n (ncells l), .ro D (fun w => NodesD D w (.slice (some ⟨b, o, none⟩) ts.length c0) ts), .blk g3 38 #[.int .i64 (a : Int), .int .i64 (b2 : Int), .int .i64 0]])
        refine (IH a (by omega) (by omega) _ _ _ _ _ _ l O31h (by omega)).mono ?_
        rintro _ w29 ⟨A27, c28, rfl, h30⟩
        have O31 : Own Z w0 w29 [.row (.slice A27 (n + Tr.size (chT ts 2 at_ k a)) c28) 38 3 (n + Tr.size (chT ts 2 at_ k a)) (ncells (l ++ post (chT ts 2 at_ k a) n)), .ro D (fun w => NodesD D w (.slice (some ⟨b, o, none⟩) ts.length c0) ts), .blk g3 38 #[.int .i64 (a : Int), .int .i64 (b2 : Int), .int .i64 0]] := Own.frame (A := [.row (.slice A n c) 38 3 n (ncells l), .ro D (fun w => NodesD D w (.slice (some ⟨b, o, none⟩) ts.length c0) ts)]) (R := [.blk g3 38 #[.int .i64 (a : Int), .int .i64 (b2 : Int), .int .i64 0]]) (O17.re [1, 2, 0] rfl : Own Z w0 w15 [.row (.slice A n c) 38 3 n (ncells l), .ro D (fun w => NodesD D w (.slice (some ⟨b, o, none⟩) ts.length c0) ts), .blk g3 38 #[.int .i64 (a : Int), .int .i64 (b2 : Int), .int .i64 0]]) h30
        refine ⟨_, rfl, ?_⟩
        refine wl_val (v := .slice A27 (n + Tr.size (chT ts 2 at_ k a)) c28) (fun ρ e => ex_assign (e _ _ rfl)) rfl rfl ?_
        refine wl_nil ?_
        refine xw_next K26 ?_
        refine cw_seq (fun FK32 K32 => ?_)
        refine cw_region ?_
        refine wl_val (v := .slice A27 (n + Tr.size (chT ts 2 at_ k a)) c28) (fun ρ e => ex_move (e _ _ rfl)) rfl rfl ?_
        refine wl_val (v := .int .i64 (((n + Tr.size (chT ts 2 at_ k a)) : Nat) : Int)) (fun ρ e => ex_len el23 (e _ _ rfl)) rfl rfl ?_
        refine wl_val (v := .int .i64 (((n + Tr.size (chT ts 2 at_ k a)) - 1 : Nat) : Int)) (fun ρ e => ex_arith (k := .i64) (u := (((n + Tr.size (chT ts 2 at_ k a)) : Nat) : Int)) (v := 1) (e _ _ rfl) (e _ _ rfl) (congrArg some ((congrArg _ (show _ = (((n + Tr.size (chT ts 2 at_ k a)) - 1 : Nat) : Int) by omega)).trans (wrap_in (by omega) (by omega))))) rfl rfl ?_
        refine wl_val (v := .int .i64 (((n + Tr.size (chT ts 2 at_ k a)) - 1 : Nat) : Int)) (fun ρ e => ex_assign (e _ _ rfl)) rfl rfl ?_
        refine wl_nil ?_
        refine xw_next K32 ?_
        refine cw_seq (fun FK33 K33 => ?_)
        refine cw_region ?_
        refine wl_val (v := .slice (some ⟨b, o, none⟩) ts.length c0) (fun ρ e => ex_move (e _ _ rfl)) rfl rfl ?_
        refine wl_val (v := .int .i64 (b2 : Int)) (fun ρ e => ex_move (e _ _ rfl)) rfl rfl ?_
        refine wl_val (v := .int .i64 (at_ : Int)) (fun ρ e => ex_move (e _ _ rfl)) rfl rfl ?_
        refine wl_val (v := .int .i64 2) (fun ρ e => ex_move (e _ _ rfl)) rfl rfl ?_
        refine wl_val (v := .slice A27 (n + Tr.size (chT ts 2 at_ k a)) c28) (fun ρ e => ex_move (e _ _ rfl)) rfl rfl ?_
        refine wl_call (args := [.slice (some ⟨b, o, none⟩) ts.length c0, .int .i64 (b2 : Int), .int .i64 (at_ : Int), .int .i64 2, .slice A27 (n + Tr.size (chT ts 2 at_ k a)) c28]) in_65 rfl rfl rfl ?_
        have O38h := Own.hand (A := [.row (.slice A27 (n + Tr.size (chT ts 2 at_ k a)) c28) 38 3 (n + Tr.size (chT ts 2 at_ k a)) (ncells (l ++ post (chT ts 2 at_ k a) n)), .ro D (fun w => NodesD D w (.slice (some ⟨b, o, none⟩) ts.length c0) ts)]) (R := [.blk g3 38 #[.int .i64 (a : Int), .int .i64 (b2 : Int), .int .i64 0]]) O31
        refine (IH b2 (by omega) (by omega) _ _ _ _ _ _ (l ++ post (chT ts 2 at_ k a) n) O38h (by omega)).mono ?_
        rintro _ w36 ⟨A34, c35, rfl, h37⟩
        have O38 : Own Z w0 w36 [.row (.slice A34 ((n + Tr.size (chT ts 2 at_ k a)) + Tr.size (chT ts 2 at_ k b2)) c35) 38 3 ((n + Tr.size (chT ts 2 at_ k a)) + Tr.size (chT ts 2 at_ k b2)) (ncells ((l ++ post (chT ts 2 at_ k a) n) ++ post (chT ts 2 at_ k b2) (n + Tr.size (chT ts 2 at_ k a)))), .ro D (fun w => NodesD D w (.slice (some ⟨b, o, none⟩) ts.length c0) ts), .blk g3 38 #[.int .i64 (a : Int), .int .i64 (b2 : Int), .int .i64 0]] := Own.frame (A := [.row (.slice A27 (n + Tr.size (chT ts 2 at_ k a)) c28) 38 3 (n + Tr.size (chT ts 2 at_ k a)) (ncells (l ++ post (chT ts 2 at_ k a) n)), .ro D (fun w => NodesD D w (.slice (some ⟨b, o, none⟩) ts.length c0) ts)]) (R := [.blk g3 38 #[.int .i64 (a : Int), .int .i64 (b2 : Int), .int .i64 0]]) O31 h37
        refine ⟨_, rfl, ?_⟩
        refine wl_val (v := .slice A34 ((n + Tr.size (chT ts 2 at_ k a)) + Tr.size (chT ts 2 at_ k b2)) c35) (fun ρ e => ex_assign (e _ _ rfl)) rfl rfl ?_
        refine wl_nil ?_
        refine xw_next K33 ?_
        refine cw_seq (fun FK39 K39 => ?_)
        refine cw_region ?_
        refine wl_val (v := .slice A34 ((n + Tr.size (chT ts 2 at_ k a)) + Tr.size (chT ts 2 at_ k b2)) c35) (fun ρ e => ex_move (e _ _ rfl)) rfl rfl ?_
        refine wl_val (v := .int .i64 (((n + Tr.size (chT ts 2 at_ k a)) - 1 : Nat) : Int)) (fun ρ e => ex_move (e _ _ rfl)) rfl rfl ?_
        refine wl_val (v := .slice A34 ((n + Tr.size (chT ts 2 at_ k a)) + Tr.size (chT ts 2 at_ k b2)) c35) (fun ρ e => ex_move (e _ _ rfl)) rfl rfl ?_
        refine wl_val (v := .int .i64 ((((n + Tr.size (chT ts 2 at_ k a)) + Tr.size (chT ts 2 at_ k b2)) : Nat) : Int)) (fun ρ e => ex_len el23 (e _ _ rfl)) rfl rfl ?_
        refine wl_val (v := .int .i64 ((((n + Tr.size (chT ts 2 at_ k a)) + Tr.size (chT ts 2 at_ k b2)) - 1 : Nat) : Int)) (fun ρ e => ex_arith (k := .i64) (u := ((((n + Tr.size (chT ts 2 at_ k a)) + Tr.size (chT ts 2 at_ k b2)) : Nat) : Int)) (v := 1) (e _ _ rfl) (e _ _ rfl) (congrArg some ((congrArg _ (show _ = ((((n + Tr.size (chT ts 2 at_ k a)) + Tr.size (chT ts 2 at_ k b2)) - 1 : Nat) : Int) by omega)).trans (wrap_in (by omega) (by omega))))) rfl rfl ?_
        refine wl_val (v := .agg #[.int .i64 (((n + Tr.size (chT ts 2 at_ k a)) - 1 : Nat) : Int), .int .i64 ((((n + Tr.size (chT ts 2 at_ k a)) + Tr.size (chT ts 2 at_ k b2)) - 1 : Nat) : Int), .int .i64 0]) (fun ρ e => ex_build (cells := #[.int .i64 (((n + Tr.size (chT ts 2 at_ k a)) - 1 : Nat) : Int), .int .i64 ((((n + Tr.size (chT ts 2 at_ k a)) + Tr.size (chT ts 2 at_ k b2)) - 1 : Nat) : Int), .int .i64 0]) st38 (e.parts rfl) rfl) rfl rfl ?_
        obtain ⟨g40, w41, r42, O43, hg44, hs45⟩ := own_slice O38 el23 ze38 1 [(0, .agg #[.int .i64 (((n + Tr.size (chT ts 2 at_ k a)) - 1 : Nat) : Int), .int .i64 ((((n + Tr.size (chT ts 2 at_ k a)) + Tr.size (chT ts 2 at_ k b2)) - 1 : Nat) : Int), .int .i64 0])] (cs := #[.int .i64 (((n + Tr.size (chT ts 2 at_ k a)) - 1 : Nat) : Int), .int .i64 ((((n + Tr.size (chT ts 2 at_ k a)) + Tr.size (chT ts 2 at_ k b2)) - 1 : Nat) : Int), .int .i64 0]) (by decide) (by kernel_rfl)
        refine wl_val (v := .slice (some ⟨g40, 0, none⟩) 1 1) (fun ρ e => r42 ρ _ _ _ _ _ _ (e.parts rfl)) rfl rfl ?_
        obtain ⟨A46, c47, w48, r49, O50, hz51, hc52⟩ := own_app1 (O43.re [1, 0, 2, 3] rfl : Own Z w0 w41 [.row (.slice A34 ((n + Tr.size (chT ts 2 at_ k a)) + Tr.size (chT ts 2 at_ k b2)) c35) 38 3 ((n + Tr.size (chT ts 2 at_ k a)) + Tr.size (chT ts 2 at_ k b2)) (ncells ((l ++ post (chT ts 2 at_ k a) n) ++ post (chT ts 2 at_ k b2) (n + Tr.size (chT ts 2 at_ k a)))), .blk g40 38 #[.int .i64 (((n + Tr.size (chT ts 2 at_ k a)) - 1 : Nat) : Int), .int .i64 ((((n + Tr.size (chT ts 2 at_ k a)) + Tr.size (chT ts 2 at_ k b2)) - 1 : Nat) : Int), .int .i64 0], .ro D (fun w => NodesD D w (.slice (some ⟨b, o, none⟩) ts.length c0) ts), .blk g3 38 #[.int .i64 (a : Int), .int .i64 (b2 : Int), .int .i64 0]]) ap23 ((O43.re [1, 0, 2, 3] rfl : Own Z w0 w41 [.row (.slice A34 ((n + Tr.size (chT ts 2 at_ k a)) + Tr.size (chT ts 2 at_ k b2)) c35) 38 3 ((n + Tr.size (chT ts 2 at_ k a)) + Tr.size (chT ts 2 at_ k b2)) (ncells ((l ++ post (chT ts 2 at_ k a) n) ++ post (chT ts 2 at_ k b2) (n + Tr.size (chT ts 2 at_ k a)))), .blk g40 38 #[.int .i64 (((n + Tr.size (chT ts 2 at_ k a)) - 1 : Nat) : Int), .int .i64 ((((n + Tr.size (chT ts 2 at_ k a)) + Tr.size (chT ts 2 at_ k b2)) - 1 : Nat) : Int), .int .i64 0], .ro D (fun w => NodesD D w (.slice (some ⟨b, o, none⟩) ts.length c0) ts), .blk g3 38 #[.int .i64 (a : Int), .int .i64 (b2 : Int), .int .i64 0]]).blk 1 rfl) (cells := [.int .i64 (((n + Tr.size (chT ts 2 at_ k a)) - 1 : Nat) : Int), .int .i64 ((((n + Tr.size (chT ts 2 at_ k a)) + Tr.size (chT ts 2 at_ k b2)) - 1 : Nat) : Int), .int .i64 0]) rfl rfl (by omega) (by omega) (ys := (ncells (((l ++ post (chT ts 2 at_ k a) n) ++ post (chT ts 2 at_ k b2) (n + Tr.size (chT ts 2 at_ k a))) ++ [(VN.mk (((n + Tr.size (chT ts 2 at_ k a)) - 1 : Nat) : Int) ((((n + Tr.size (chT ts 2 at_ k a)) + Tr.size (chT ts 2 at_ k b2)) - 1 : Nat) : Int) 0)]))) (ncells_snoc ((l ++ post (chT ts 2 at_ k a) n) ++ post (chT ts 2 at_ k b2) (n + Tr.size (chT ts 2 at_ k a))) (VN.mk (((n + Tr.size (chT ts 2 at_ k a)) - 1 : Nat) : Int) ((((n + Tr.size (chT ts 2 at_ k a)) + Tr.size (chT ts 2 at_ k b2)) - 1 : Nat) : Int) 0))
        refine wl_val (v := .slice A46 (((n + Tr.size (chT ts 2 at_ k a)) + Tr.size (chT ts 2 at_ k b2)) + 1) c47) (fun ρ e => r49 ρ _ _ _ _ _ _ _ (e _ _ rfl) (e _ _ rfl)) rfl rfl ?_
        refine wl_val (v := .slice A46 (((n + Tr.size (chT ts 2 at_ k a)) + Tr.size (chT ts 2 at_ k b2)) + 1) c47) (fun ρ e => ex_assign (e _ _ rfl)) rfl rfl ?_
        refine wl_nil ?_
        refine xw_next K39 ?_
        refine cw_ret ?_
        refine xw_ret (v := .slice A46 (((n + Tr.size (chT ts 2 at_ k a)) + Tr.size (chT ts 2 at_ k b2)) + 1) c47) (fun T hT => res1 rfl T _ (hT 10 _ rfl)) ?_
        have hn : ((n + Tr.size (chT ts 2 at_ k a)) + Tr.size (chT ts 2 at_ k b2)) + 1 = n + Tr.size (chT ts 2 at_ (k + 1) i) := by rw [hT]; simp only [Tr.size] <;> omega
        have hl : (((l ++ post (chT ts 2 at_ k a) n) ++ post (chT ts 2 at_ k b2) (n + Tr.size (chT ts 2 at_ k a))) ++ [(VN.mk (((n + Tr.size (chT ts 2 at_ k a)) - 1 : Nat) : Int) ((((n + Tr.size (chT ts 2 at_ k a)) + Tr.size (chT ts 2 at_ k b2)) - 1 : Nat) : Int) 0)]) = l ++ post (chT ts 2 at_ (k + 1) i) n := by rw [hT]; simp [post, Tr.size, Nat.add_assoc]
        have hO := (O50.re [0, 2] rfl : Own Z w0 w48 [.row (.slice A46 (((n + Tr.size (chT ts 2 at_ k a)) + Tr.size (chT ts 2 at_ k b2)) + 1) c47) 38 3 (((n + Tr.size (chT ts 2 at_ k a)) + Tr.size (chT ts 2 at_ k b2)) + 1) (ncells (((l ++ post (chT ts 2 at_ k a) n) ++ post (chT ts 2 at_ k b2) (n + Tr.size (chT ts 2 at_ k a))) ++ [(VN.mk (((n + Tr.size (chT ts 2 at_ k a)) - 1 : Nat) : Int) ((((n + Tr.size (chT ts 2 at_ k a)) + Tr.size (chT ts 2 at_ k b2)) - 1 : Nat) : Int) 0)])), .ro D (fun w => NodesD D w (.slice (some ⟨b, o, none⟩) ts.length c0) ts)])
        rw [hn, hl] at hO
        exact ⟨A46, c47, by rw [hn], hO⟩
theorem rchg3_at {ts : List VN} {D : Nat → Prop} {b o c0 at_ ax bx k : Nat} (hV : Val ts) (hle : ts.length ≤ 255) (hat : ts[at_]? = some ⟨(ax : Int), (bx : Int), 0⟩) (hik : at_ < k + 1) (hi : at_ < ts.length) (IH : ∀ (i : Nat), i < k → i < ts.length → ∀ (Z : Bool → Nat → Prop) (w0 W : World) (A : Option Addr) (n c : Nat) (l : List VN), Own Z w0 W [.row (.slice A n c) 38 3 n (ncells l), .ro D (fun w => NodesD D w (.slice (some ⟨b, o, none⟩) ts.length c0) ts)] → n + Tr.size (chT ts 3 at_ k i) ≤ 10000 →
    Calls Tryd.prog 65 #[.slice (some ⟨b, o, none⟩) ts.length c0, .int .i64 (i : Int), .int .i64 (at_ : Int), .int .i64 3, .slice A n c] W fun e w' => ∃ A' c', e = .returned (.slice A' (n + Tr.size (chT ts 3 at_ k i)) c') ∧ Own Z w0 w' [.row (.slice A' (n + Tr.size (chT ts 3 at_ k i)) c') 38 3 (n + Tr.size (chT ts 3 at_ k i)) (ncells (l ++ post (chT ts 3 at_ k i) n)), .ro D (fun w => NodesD D w (.slice (some ⟨b, o, none⟩) ts.length c0) ts)]) (Z : Bool → Nat → Prop) (w0 W : World) (A : Option Addr) (n c : Nat) (l : List VN) (O0 : Own Z w0 W [.row (.slice A n c) 38 3 n (ncells l), .ro D (fun w => NodesD D w (.slice (some ⟨b, o, none⟩) ts.length c0) ts)]) (hlim : n + Tr.size (chT ts 3 at_ (k + 1) at_) ≤ 10000) :
    Calls Tryd.prog 65 #[.slice (some ⟨b, o, none⟩) ts.length c0, .int .i64 (at_ : Int), .int .i64 (at_ : Int), .int .i64 3, .slice A n c] W fun e w' => ∃ A' c', e = .returned (.slice A' (n + Tr.size (chT ts 3 at_ (k + 1) at_)) c') ∧ Own Z w0 w' [.row (.slice A' (n + Tr.size (chT ts 3 at_ (k + 1) at_)) c') 38 3 (n + Tr.size (chT ts 3 at_ (k + 1) at_)) (ncells (l ++ post (chT ts 3 at_ (k + 1) at_) n)), .ro D (fun w => NodesD D w (.slice (some ⟨b, o, none⟩) ts.length c0) ts)] := by
      have hlf : lf (VN.mk (ax : Int) (bx : Int) 0) = false := lf_inner ax bx
      obtain ⟨_, _, _, _⟩ := hV.in_ hat
      have hT : (chT ts 3 at_ (k + 1) at_) = .node (chT ts 3 at_ k bx) (chT ts 3 at_ k ax) := chT_s hat
      have hsa := Tr.size_pos (chT ts 3 at_ k ax)
      have hsb := Tr.size_pos (chT ts 3 at_ k bx)
      rw [hT] at hlim
      simp only [Tr.size] at hlim
      refine sx_enter (args := [.slice (some ⟨b, o, none⟩) ts.length c0, .int .i64 (at_ : Int), .int .i64 (at_ : Int), .int .i64 3, .slice A n c]) Tryd.func65 rfl rfl (by simp) ?_
      refine cw_seq (fun FK1 K1 => ?_)
      refine cw_region ?_
      refine wl_val (v := .slice none 0 0) (fun ρ e => ex_assign (e _ _ rfl)) rfl rfl ?_
      refine wl_nil ?_
      refine xw_next K1 ?_
      refine cw_seq (fun FK2 K2 => ?_)
      refine cw_region ?_
      refine wl_val (v := .slice (some ⟨b, o, none⟩) ts.length c0) (fun ρ e => ex_move (e _ _ rfl)) rfl rfl ?_
      refine wl_val (v := .int .i64 (at_ : Int)) (fun ρ e => ex_move (e _ _ rfl)) rfl rfl ?_
      refine wl_val (v := .pointer (some ⟨b, o + at_ * 3, none⟩)) (fun ρ e => ex_idx (q := o + at_ * 3) (i := at_) el23 (e _ _ rfl) (e _ _ rfl) (by omega) (by omega)) rfl rfl ?_
      refine wl_val (v := .agg #[.int .i64 (ax : Int), .int .i64 (bx : Int), .int .i64 0]) (fun ρ e => ex_loadN (vs := [.int .i64 (ax : Int), .int .i64 (bx : Int), .int .i64 0]) ty38 (e _ _ rfl) rfl (cells3 (NodesD.c0 ((O0.ro 1 rfl : (fun w => NodesD D w (.slice (some ⟨b, o, none⟩) ts.length c0) ts) _) : NodesD _ _ _ _) hat) (NodesD.c1 ((O0.ro 1 rfl : (fun w => NodesD D w (.slice (some ⟨b, o, none⟩) ts.length c0) ts) _) : NodesD _ _ _ _) hat) (NodesD.c2 ((O0.ro 1 rfl : (fun w => NodesD D w (.slice (some ⟨b, o, none⟩) ts.length c0) ts) _) : NodesD _ _ _ _) hat))) rfl rfl ?_
      obtain ⟨g3, w4, r5, O6, hg7, hs8⟩ := own_alloc O0 38 ze38 rfl
      refine wl_val (v := .pointer (some ⟨g3, 0, none⟩)) (fun ρ e => r5 ρ _ _ _ _ _) rfl rfl ?_
      obtain ⟨w9, r10, O11, hs12⟩ := own_put (o := 0) (n := 3) O6 ty38 (.agg #[.int .i64 (ax : Int), .int .i64 (bx : Int), .int .i64 0]) [.int .i64 (ax : Int), .int .i64 (bx : Int), .int .i64 0] (cs' := #[.int .i64 (ax : Int), .int .i64 (bx : Int), .int .i64 0]) rfl rfl rfl (Nat.le_of_ble_eq_true rfl) rfl
      refine wl_none (fun ρ e => r10 ρ _ _ _ _ _ _ (e _ _ rfl) (e _ _ rfl)) rfl ?_
      refine wl_nil ?_
      refine xw_next K2 ?_
      refine cw_seq (fun FK13 K13 => ?_)
      refine cw_seq (fun FK14 K14 => ?_)
      refine cw_region ?_
      refine wl_val (v := .agg #[.int .i64 (ax : Int), .int .i64 (bx : Int), .int .i64 0]) (fun ρ e => ex_loadN (vs := [.int .i64 (ax : Int), .int .i64 (bx : Int), .int .i64 0]) ty38 (e _ _ rfl) rfl (O11.cells 0 0 rfl rfl)) rfl rfl ?_
      refine wl_call (args := [.agg #[.int .i64 (ax : Int), .int .i64 (bx : Int), .int .i64 0]]) in_72 rfl rfl rfl ?_
      refine (rleaf_ (VN.mk (ax : Int) (bx : Int) 0) (W := w9)).mono ?_
      rintro _ w15 ⟨rfl, hb16⟩
      have O17 : Own Z w0 w15 [.blk g3 38 #[.int .i64 (ax : Int), .int .i64 (bx : Int), .int .i64 0], .row (.slice A n c) 38 3 n (ncells l), .ro D (fun w => NodesD D w (.slice (some ⟨b, o, none⟩) ts.length c0) ts)] := O11.below hb16
      refine ⟨_, rfl, ?_⟩
      refine wl_nil ?_
      refine xw_next K14 ?_
      refine cw_false (congrArg (fun b => some (Value.bool b)) hlf) ?_
      refine cw_skip ?_
      refine xw_next K13 ?_
      refine cw_seq (fun FK18 K18 => ?_)
      refine cw_seq (fun FK19 K19 => ?_)
      refine cw_region ?_
      refine wl_val (v := .int .i64 (at_ : Int)) (fun ρ e => ex_move (e _ _ rfl)) rfl rfl ?_
      refine wl_val (v := .int .i64 (at_ : Int)) (fun ρ e => ex_move (e _ _ rfl)) rfl rfl ?_
      refine wl_val (v := .bool true) (fun ρ e => ex_cmp (u := (at_ : Int)) (v := (at_ : Int)) (e _ _ rfl) (e _ _ rfl) (eql1 rfl)) rfl rfl ?_
      refine wl_val (v := .bool true) (fun ρ e => ex_move (e _ _ rfl)) rfl rfl ?_
      refine wl_val (v := .int .i64 3) (fun ρ e => ex_move (e _ _ rfl)) rfl rfl ?_
      refine wl_val (v := .bool false) (fun ρ e => ex_cmp (u := 3) (v := 1) (e _ _ rfl) (e _ _ rfl) (eql0 (by omega))) rfl rfl ?_
      refine wl_val (v := .bool false) (fun ρ e => ex_pick1 (e _ _ rfl) (e _ _ rfl)) rfl rfl ?_
      refine wl_nil ?_
      refine xw_next K19 ?_
      refine cw_false rfl ?_
      refine cw_skip ?_
      refine xw_next K18 ?_
      refine cw_seq (fun FK20 K20 => ?_)
      refine cw_seq (fun FK21 K21 => ?_)
      refine cw_region ?_
      refine wl_val (v := .int .i64 (at_ : Int)) (fun ρ e => ex_move (e _ _ rfl)) rfl rfl ?_
      refine wl_val (v := .int .i64 (at_ : Int)) (fun ρ e => ex_move (e _ _ rfl)) rfl rfl ?_
      refine wl_val (v := .bool true) (fun ρ e => ex_cmp (u := (at_ : Int)) (v := (at_ : Int)) (e _ _ rfl) (e _ _ rfl) (eql1 rfl)) rfl rfl ?_
      refine wl_val (v := .bool true) (fun ρ e => ex_move (e _ _ rfl)) rfl rfl ?_
      refine wl_val (v := .int .i64 3) (fun ρ e => ex_move (e _ _ rfl)) rfl rfl ?_
      refine wl_val (v := .bool false) (fun ρ e => ex_cmp (u := 3) (v := 2) (e _ _ rfl) (e _ _ rfl) (eql0 (by omega))) rfl rfl ?_
      refine wl_val (v := .bool false) (fun ρ e => ex_pick1 (e _ _ rfl) (e _ _ rfl)) rfl rfl ?_
      refine wl_nil ?_
      refine xw_next K21 ?_
      refine cw_false rfl ?_
      refine cw_skip ?_
      refine xw_next K20 ?_
      refine cw_seq (fun FK22 K22 => ?_)
      refine cw_region ?_
      refine wl_val (v := .pointer (some ⟨g3, 0, none⟩)) (fun ρ e => ex_field (q := 0) fi38_0 (e _ _ rfl) rfl) rfl rfl ?_
      refine wl_val (v := .int .i64 (ax : Int)) (fun ρ e => ex_load1 ty3 (e _ _ rfl) (O17.cell 0 0 rfl rfl)) rfl rfl ?_
      refine wl_val (v := .int .i64 (ax : Int)) (fun ρ e => ex_assign (e _ _ rfl)) rfl rfl ?_
      refine wl_nil ?_
      refine xw_next K22 ?_
      refine cw_seq (fun FK23 K23 => ?_)
      refine cw_region ?_
      refine wl_val (v := .pointer (some ⟨g3, 1, none⟩)) (fun ρ e => ex_field (q := 1) fi38_1 (e _ _ rfl) rfl) rfl rfl ?_
      refine wl_val (v := .int .i64 (bx : Int)) (fun ρ e => ex_load1 ty3 (e _ _ rfl) (O17.cell 0 1 rfl rfl)) rfl rfl ?_
      refine wl_val (v := .int .i64 (bx : Int)) (fun ρ e => ex_assign (e _ _ rfl)) rfl rfl ?_
      refine wl_nil ?_
      refine xw_next K23 ?_
      refine cw_seq (fun FK24 K24 => ?_)
      refine cw_seq (fun FK25 K25 => ?_)
      refine cw_region ?_
      refine wl_val (v := .int .i64 (at_ : Int)) (fun ρ e => ex_move (e _ _ rfl)) rfl rfl ?_
      refine wl_val (v := .int .i64 (at_ : Int)) (fun ρ e => ex_move (e _ _ rfl)) rfl rfl ?_
      refine wl_val (v := .bool true) (fun ρ e => ex_cmp (u := (at_ : Int)) (v := (at_ : Int)) (e _ _ rfl) (e _ _ rfl) (eql1 rfl)) rfl rfl ?_
      refine wl_val (v := .bool true) (fun ρ e => ex_move (e _ _ rfl)) rfl rfl ?_
      refine wl_val (v := .int .i64 3) (fun ρ e => ex_move (e _ _ rfl)) rfl rfl ?_
      refine wl_val (v := .bool true) (fun ρ e => ex_cmp (u := 3) (v := 3) (e _ _ rfl) (e _ _ rfl) (eql1 (by omega))) rfl rfl ?_
      refine wl_val (v := .bool true) (fun ρ e => ex_pick1 (e _ _ rfl) (e _ _ rfl)) rfl rfl ?_
      refine wl_nil ?_
      refine xw_next K25 ?_
      refine cw_true rfl ?_
      refine cw_seq (fun FK26 K26 => ?_)
      refine cw_region ?_
      refine wl_val (v := .pointer (some ⟨g3, 1, none⟩)) (fun ρ e => ex_field (q := 1) fi38_1 (e _ _ rfl) rfl) rfl rfl ?_
      refine wl_val (v := .int .i64 (bx : Int)) (fun ρ e => ex_load1 ty3 (e _ _ rfl) (O17.cell 0 1 rfl rfl)) rfl rfl ?_
      refine wl_val (v := .int .i64 (bx : Int)) (fun ρ e => ex_assign (e _ _ rfl)) rfl rfl ?_
      refine wl_nil ?_
      refine xw_next K26 ?_
      refine cw_region ?_
      refine wl_val (v := .pointer (some ⟨g3, 0, none⟩)) (fun ρ e => ex_field (q := 0) fi38_0 (e _ _ rfl) rfl) rfl rfl ?_
      refine wl_val (v := .int .i64 (ax : Int)) (fun ρ e => ex_load1 ty3 (e _ _ rfl) (O17.cell 0 0 rfl rfl)) rfl rfl ?_
      refine wl_val (v := .int .i64 (ax : Int)) (fun ρ e => ex_assign (e _ _ rfl)) rfl rfl ?_
      refine wl_nil ?_
      refine xw_next K24 ?_
      refine cw_seq (fun FK27 K27 => ?_)
      refine cw_region ?_
      refine wl_val (v := .slice (some ⟨b, o, none⟩) ts.length c0) (fun ρ e => ex_move (e _ _ rfl)) rfl rfl ?_
      refine wl_val (v := .int .i64 (bx : Int)) (fun ρ e => ex_move (e _ _ rfl)) rfl rfl ?_
      refine wl_val (v := .int .i64 (at_ : Int)) (fun ρ e => ex_move (e _ _ rfl)) rfl rfl ?_
      refine wl_val (v := .int .i64 3) (fun ρ e => ex_move (e _ _ rfl)) rfl rfl ?_
      refine wl_val (v := .slice A n c) (fun ρ e => ex_move (e _ _ rfl)) rfl rfl ?_
      refine wl_call (args := [.slice (some ⟨b, o, none⟩) ts.length c0, .int .i64 (bx : Int), .int .i64 (at_ : Int), .int .i64 3, .slice A n c]) in_65 rfl rfl rfl ?_
      have O32h := Own.hand (A := [.row (.slice A n c) 38 3 n (ncells l), .ro D (fun w => NodesD D w (.slice (some ⟨b, o, none⟩) ts.length c0) ts)]) (R := [.blk g3 38 #[.int .i64 (ax : Int), .int .i64 (bx : Int), .int .i64 0]]) (O17.re [1, 2, 0] rfl : Own Z w0 w15 [.row (.slice A n c) 38 3 n (ncells l), .ro D (fun w => NodesD D w (.slice (some ⟨b, o, none⟩) ts.length c0) ts), .blk g3 38 #[.int .i64 (ax : Int), .int .i64 (bx : Int), .int .i64 0]])
      refine (IH bx (by omega) (by omega) _ _ _ _ _ _ l O32h (by omega)).mono ?_
      rintro _ w30 ⟨A28, c29, rfl, h31⟩
      have O32 : Own Z w0 w30 [.row (.slice A28 (n + Tr.size (chT ts 3 at_ k bx)) c29) 38 3 (n + Tr.size (chT ts 3 at_ k bx)) (ncells (l ++ post (chT ts 3 at_ k bx) n)), .ro D (fun w => NodesD D w (.slice (some ⟨b, o, none⟩) ts.length c0) ts), .blk g3 38 #[.int .i64 (ax : Int), .int .i64 (bx : Int), .int .i64 0]] := Own.frame (A := [.row (.slice A n c) 38 3 n (ncells l), .ro D (fun w => NodesD D w (.slice (some ⟨b, o, none⟩) ts.length c0) ts)]) (R := [.blk g3 38 #[.int .i64 (ax : Int), .int .i64 (bx : Int), .int .i64 0]]) (O17.re [1, 2, 0] rfl : Own Z w0 w15 [.row (.slice A n c) 38 3 n (ncells l), .ro D (fun w => NodesD D w (.slice (some ⟨b, o, none⟩) ts.length c0) ts), .blk g3 38 #[.int .i64 (ax : Int), .int .i64 (bx : Int), .int .i64 0]]) h31
      refine ⟨_, rfl, ?_⟩
      refine wl_val (v := .slice A28 (n + Tr.size (chT ts 3 at_ k bx)) c29) (fun ρ e => ex_assign (e _ _ rfl)) rfl rfl ?_
      refine wl_nil ?_
      refine xw_next K27 ?_
      refine cw_seq (fun FK33 K33 => ?_)
      refine cw_region ?_
      refine wl_val (v := .slice A28 (n + Tr.size (chT ts 3 at_ k bx)) c29) (fun ρ e => ex_move (e _ _ rfl)) rfl rfl ?_
      refine wl_val (v := .int .i64 (((n + Tr.size (chT ts 3 at_ k bx)) : Nat) : Int)) (fun ρ e => ex_len el23 (e _ _ rfl)) rfl rfl ?_
      refine wl_val (v := .int .i64 (((n + Tr.size (chT ts 3 at_ k bx)) - 1 : Nat) : Int)) (fun ρ e => ex_arith (k := .i64) (u := (((n + Tr.size (chT ts 3 at_ k bx)) : Nat) : Int)) (v := 1) (e _ _ rfl) (e _ _ rfl) (congrArg some ((congrArg _ (show _ = (((n + Tr.size (chT ts 3 at_ k bx)) - 1 : Nat) : Int) by omega)).trans (wrap_in (by omega) (by omega))))) rfl rfl ?_
      refine wl_val (v := .int .i64 (((n + Tr.size (chT ts 3 at_ k bx)) - 1 : Nat) : Int)) (fun ρ e => ex_assign (e _ _ rfl)) rfl rfl ?_
      refine wl_nil ?_
      refine xw_next K33 ?_
      refine cw_seq (fun FK34 K34 => ?_)
      refine cw_region ?_
      refine wl_val (v := .slice (some ⟨b, o, none⟩) ts.length c0) (fun ρ e => ex_move (e _ _ rfl)) rfl rfl ?_
      refine wl_val (v := .int .i64 (ax : Int)) (fun ρ e => ex_move (e _ _ rfl)) rfl rfl ?_
      refine wl_val (v := .int .i64 (at_ : Int)) (fun ρ e => ex_move (e _ _ rfl)) rfl rfl ?_
      refine wl_val (v := .int .i64 3) (fun ρ e => ex_move (e _ _ rfl)) rfl rfl ?_
      refine wl_val (v := .slice A28 (n + Tr.size (chT ts 3 at_ k bx)) c29) (fun ρ e => ex_move (e _ _ rfl)) rfl rfl ?_
      refine wl_call (args := [.slice (some ⟨b, o, none⟩) ts.length c0, .int .i64 (ax : Int), .int .i64 (at_ : Int), .int .i64 3, .slice A28 (n + Tr.size (chT ts 3 at_ k bx)) c29]) in_65 rfl rfl rfl ?_
      have O39h := Own.hand (A := [.row (.slice A28 (n + Tr.size (chT ts 3 at_ k bx)) c29) 38 3 (n + Tr.size (chT ts 3 at_ k bx)) (ncells (l ++ post (chT ts 3 at_ k bx) n)), .ro D (fun w => NodesD D w (.slice (some ⟨b, o, none⟩) ts.length c0) ts)]) (R := [.blk g3 38 #[.int .i64 (ax : Int), .int .i64 (bx : Int), .int .i64 0]]) O32
      refine (IH ax (by omega) (by omega) _ _ _ _ _ _ (l ++ post (chT ts 3 at_ k bx) n) O39h (by omega)).mono ?_
      rintro _ w37 ⟨A35, c36, rfl, h38⟩
      have O39 : Own Z w0 w37 [.row (.slice A35 ((n + Tr.size (chT ts 3 at_ k bx)) + Tr.size (chT ts 3 at_ k ax)) c36) 38 3 ((n + Tr.size (chT ts 3 at_ k bx)) + Tr.size (chT ts 3 at_ k ax)) (ncells ((l ++ post (chT ts 3 at_ k bx) n) ++ post (chT ts 3 at_ k ax) (n + Tr.size (chT ts 3 at_ k bx)))), .ro D (fun w => NodesD D w (.slice (some ⟨b, o, none⟩) ts.length c0) ts), .blk g3 38 #[.int .i64 (ax : Int), .int .i64 (bx : Int), .int .i64 0]] := Own.frame (A := [.row (.slice A28 (n + Tr.size (chT ts 3 at_ k bx)) c29) 38 3 (n + Tr.size (chT ts 3 at_ k bx)) (ncells (l ++ post (chT ts 3 at_ k bx) n)), .ro D (fun w => NodesD D w (.slice (some ⟨b, o, none⟩) ts.length c0) ts)]) (R := [.blk g3 38 #[.int .i64 (ax : Int), .int .i64 (bx : Int), .int .i64 0]]) O32 h38
      refine ⟨_, rfl, ?_⟩
      refine wl_val (v := .slice A35 ((n + Tr.size (chT ts 3 at_ k bx)) + Tr.size (chT ts 3 at_ k ax)) c36) (fun ρ e => ex_assign (e _ _ rfl)) rfl rfl ?_
      refine wl_nil ?_
      refine xw_next K34 ?_
      refine cw_seq (fun FK40 K40 => ?_)
      refine cw_region ?_
      refine wl_val (v := .slice A35 ((n + Tr.size (chT ts 3 at_ k bx)) + Tr.size (chT ts 3 at_ k ax)) c36) (fun ρ e => ex_move (e _ _ rfl)) rfl rfl ?_
      refine wl_val (v := .int .i64 (((n + Tr.size (chT ts 3 at_ k bx)) - 1 : Nat) : Int)) (fun ρ e => ex_move (e _ _ rfl)) rfl rfl ?_
      refine wl_val (v := .slice A35 ((n + Tr.size (chT ts 3 at_ k bx)) + Tr.size (chT ts 3 at_ k ax)) c36) (fun ρ e => ex_move (e _ _ rfl)) rfl rfl ?_
      refine wl_val (v := .int .i64 ((((n + Tr.size (chT ts 3 at_ k bx)) + Tr.size (chT ts 3 at_ k ax)) : Nat) : Int)) (fun ρ e => ex_len el23 (e _ _ rfl)) rfl rfl ?_
      refine wl_val (v := .int .i64 ((((n + Tr.size (chT ts 3 at_ k bx)) + Tr.size (chT ts 3 at_ k ax)) - 1 : Nat) : Int)) (fun ρ e => ex_arith (k := .i64) (u := ((((n + Tr.size (chT ts 3 at_ k bx)) + Tr.size (chT ts 3 at_ k ax)) : Nat) : Int)) (v := 1) (e _ _ rfl) (e _ _ rfl) (congrArg some ((congrArg _ (show _ = ((((n + Tr.size (chT ts 3 at_ k bx)) + Tr.size (chT ts 3 at_ k ax)) - 1 : Nat) : Int) by omega)).trans (wrap_in (by omega) (by omega))))) rfl rfl ?_
      refine wl_val (v := .agg #[.int .i64 (((n + Tr.size (chT ts 3 at_ k bx)) - 1 : Nat) : Int), .int .i64 ((((n + Tr.size (chT ts 3 at_ k bx)) + Tr.size (chT ts 3 at_ k ax)) - 1 : Nat) : Int), .int .i64 0]) (fun ρ e => ex_build (cells := #[.int .i64 (((n + Tr.size (chT ts 3 at_ k bx)) - 1 : Nat) : Int), .int .i64 ((((n + Tr.size (chT ts 3 at_ k bx)) + Tr.size (chT ts 3 at_ k ax)) - 1 : Nat) : Int), .int .i64 0]) st38 (e.parts rfl) rfl) rfl rfl ?_
      obtain ⟨g41, w42, r43, O44, hg45, hs46⟩ := own_slice O39 el23 ze38 1 [(0, .agg #[.int .i64 (((n + Tr.size (chT ts 3 at_ k bx)) - 1 : Nat) : Int), .int .i64 ((((n + Tr.size (chT ts 3 at_ k bx)) + Tr.size (chT ts 3 at_ k ax)) - 1 : Nat) : Int), .int .i64 0])] (cs := #[.int .i64 (((n + Tr.size (chT ts 3 at_ k bx)) - 1 : Nat) : Int), .int .i64 ((((n + Tr.size (chT ts 3 at_ k bx)) + Tr.size (chT ts 3 at_ k ax)) - 1 : Nat) : Int), .int .i64 0]) (by decide) (by kernel_rfl)
      refine wl_val (v := .slice (some ⟨g41, 0, none⟩) 1 1) (fun ρ e => r43 ρ _ _ _ _ _ _ (e.parts rfl)) rfl rfl ?_
      obtain ⟨A47, c48, w49, r50, O51, hz52, hc53⟩ := own_app1 (O44.re [1, 0, 2, 3] rfl : Own Z w0 w42 [.row (.slice A35 ((n + Tr.size (chT ts 3 at_ k bx)) + Tr.size (chT ts 3 at_ k ax)) c36) 38 3 ((n + Tr.size (chT ts 3 at_ k bx)) + Tr.size (chT ts 3 at_ k ax)) (ncells ((l ++ post (chT ts 3 at_ k bx) n) ++ post (chT ts 3 at_ k ax) (n + Tr.size (chT ts 3 at_ k bx)))), .blk g41 38 #[.int .i64 (((n + Tr.size (chT ts 3 at_ k bx)) - 1 : Nat) : Int), .int .i64 ((((n + Tr.size (chT ts 3 at_ k bx)) + Tr.size (chT ts 3 at_ k ax)) - 1 : Nat) : Int), .int .i64 0], .ro D (fun w => NodesD D w (.slice (some ⟨b, o, none⟩) ts.length c0) ts), .blk g3 38 #[.int .i64 (ax : Int), .int .i64 (bx : Int), .int .i64 0]]) ap23 ((O44.re [1, 0, 2, 3] rfl : Own Z w0 w42 [.row (.slice A35 ((n + Tr.size (chT ts 3 at_ k bx)) + Tr.size (chT ts 3 at_ k ax)) c36) 38 3 ((n + Tr.size (chT ts 3 at_ k bx)) + Tr.size (chT ts 3 at_ k ax)) (ncells ((l ++ post (chT ts 3 at_ k bx) n) ++ post (chT ts 3 at_ k ax) (n + Tr.size (chT ts 3 at_ k bx)))), .blk g41 38 #[.int .i64 (((n + Tr.size (chT ts 3 at_ k bx)) - 1 : Nat) : Int), .int .i64 ((((n + Tr.size (chT ts 3 at_ k bx)) + Tr.size (chT ts 3 at_ k ax)) - 1 : Nat) : Int), .int .i64 0], .ro D (fun w => NodesD D w (.slice (some ⟨b, o, none⟩) ts.length c0) ts), .blk g3 38 #[.int .i64 (ax : Int), .int .i64 (bx : Int), .int .i64 0]]).blk 1 rfl) (cells := [.int .i64 (((n + Tr.size (chT ts 3 at_ k bx)) - 1 : Nat) : Int), .int .i64 ((((n + Tr.size (chT ts 3 at_ k bx)) + Tr.size (chT ts 3 at_ k ax)) - 1 : Nat) : Int), .int .i64 0]) rfl rfl (by omega) (by omega) (ys := (ncells (((l ++ post (chT ts 3 at_ k bx) n) ++ post (chT ts 3 at_ k ax) (n + Tr.size (chT ts 3 at_ k bx))) ++ [(VN.mk (((n + Tr.size (chT ts 3 at_ k bx)) - 1 : Nat) : Int) ((((n + Tr.size (chT ts 3 at_ k bx)) + Tr.size (chT ts 3 at_ k ax)) - 1 : Nat) : Int) 0)]))) (ncells_snoc ((l ++ post (chT ts 3 at_ k bx) n) ++ post (chT ts 3 at_ k ax) (n + Tr.size (chT ts 3 at_ k bx))) (VN.mk (((n + Tr.size (chT ts 3 at_ k bx)) - 1 : Nat) : Int) ((((n + Tr.size (chT ts 3 at_ k bx)) + Tr.size (chT ts 3 at_ k ax)) - 1 : Nat) : Int) 0))
      refine wl_val (v := .slice A47 (((n + Tr.size (chT ts 3 at_ k bx)) + Tr.size (chT ts 3 at_ k ax)) + 1) c48) (fun ρ e => r50 ρ _ _ _ _ _ _ _ (e _ _ rfl) (e _ _ rfl)) rfl rfl ?_
      refine wl_val (v := .slice A47 (((n + Tr.size (chT ts 3 at_ k bx)) + Tr.size (chT ts 3 at_ k ax)) + 1) c48) (fun ρ e => ex_assign (e _ _ rfl)) rfl rfl ?_
      refine wl_nil ?_
      refine xw_next K40 ?_
      refine cw_ret ?_
      refine xw_ret (v := .slice A47 (((n + Tr.size (chT ts 3 at_ k bx)) + Tr.size (chT ts 3 at_ k ax)) + 1) c48) (fun T hT => res1 rfl T _ (hT 10 _ rfl)) ?_
      have hn : ((n + Tr.size (chT ts 3 at_ k bx)) + Tr.size (chT ts 3 at_ k ax)) + 1 = n + Tr.size (chT ts 3 at_ (k + 1) at_) := by rw [hT]; simp only [Tr.size] <;> omega
      have hl : (((l ++ post (chT ts 3 at_ k bx) n) ++ post (chT ts 3 at_ k ax) (n + Tr.size (chT ts 3 at_ k bx))) ++ [(VN.mk (((n + Tr.size (chT ts 3 at_ k bx)) - 1 : Nat) : Int) ((((n + Tr.size (chT ts 3 at_ k bx)) + Tr.size (chT ts 3 at_ k ax)) - 1 : Nat) : Int) 0)]) = l ++ post (chT ts 3 at_ (k + 1) at_) n := by rw [hT]; simp [post, Tr.size, Nat.add_assoc]
      have hO := (O51.re [0, 2] rfl : Own Z w0 w49 [.row (.slice A47 (((n + Tr.size (chT ts 3 at_ k bx)) + Tr.size (chT ts 3 at_ k ax)) + 1) c48) 38 3 (((n + Tr.size (chT ts 3 at_ k bx)) + Tr.size (chT ts 3 at_ k ax)) + 1) (ncells (((l ++ post (chT ts 3 at_ k bx) n) ++ post (chT ts 3 at_ k ax) (n + Tr.size (chT ts 3 at_ k bx))) ++ [(VN.mk (((n + Tr.size (chT ts 3 at_ k bx)) - 1 : Nat) : Int) ((((n + Tr.size (chT ts 3 at_ k bx)) + Tr.size (chT ts 3 at_ k ax)) - 1 : Nat) : Int) 0)])), .ro D (fun w => NodesD D w (.slice (some ⟨b, o, none⟩) ts.length c0) ts)])
      rw [hn, hl] at hO
      exact ⟨A47, c48, by rw [hn], hO⟩
theorem rchanged3 {ts : List VN} {D : Nat → Prop} {b o c0 at_ ax bx : Nat} (hV : Val ts) (hle : ts.length ≤ 255) (hat : ts[at_]? = some ⟨(ax : Int), (bx : Int), 0⟩) : ∀ (k i : Nat), i < k → i < ts.length → ∀ (Z : Bool → Nat → Prop) (w0 W : World) (A : Option Addr) (n c : Nat) (l : List VN), Own Z w0 W [.row (.slice A n c) 38 3 n (ncells l), .ro D (fun w => NodesD D w (.slice (some ⟨b, o, none⟩) ts.length c0) ts)] → n + Tr.size (chT ts 3 at_ k i) ≤ 10000 →
    Calls Tryd.prog 65 #[.slice (some ⟨b, o, none⟩) ts.length c0, .int .i64 (i : Int), .int .i64 (at_ : Int), .int .i64 3, .slice A n c] W fun e w' => ∃ A' c', e = .returned (.slice A' (n + Tr.size (chT ts 3 at_ k i)) c') ∧ Own Z w0 w' [.row (.slice A' (n + Tr.size (chT ts 3 at_ k i)) c') 38 3 (n + Tr.size (chT ts 3 at_ k i)) (ncells (l ++ post (chT ts 3 at_ k i) n)), .ro D (fun w => NodesD D w (.slice (some ⟨b, o, none⟩) ts.length c0) ts)]
  | 0, _, h, _ => absurd h (Nat.not_lt_zero _)
  | k + 1, i, hik, hi => fun Z w0 W A n c l O0 hlim => by
    have IH := rchanged3 (b := b) (o := o) (c0 := c0) (D := D) hV hle hat k
    rcases hV.kind i _ (List.getElem?_eq_getElem hi) with ⟨v, hx0, h1, h2⟩ | ⟨a, b2, hx0, ha, hb, hab⟩
    · have hx : ts[i]? = some ⟨-1, -1, v⟩ := by rw [List.getElem?_eq_getElem hi, hx0]
      have hlf : lf (VN.mk (-1) (-1) v) = true := lf_leaf h1 h2
      have hT : (chT ts 3 at_ (k + 1) i) = .leaf v := chT_leaf hx h1 h2
      rw [hT] at hlim
      simp only [Tr.size] at hlim
      refine sx_enter (args := [.slice (some ⟨b, o, none⟩) ts.length c0, .int .i64 (i : Int), .int .i64 (at_ : Int), .int .i64 3, .slice A n c]) Tryd.func65 rfl rfl (by simp) ?_
      refine cw_seq (fun FK1 K1 => ?_)
      refine cw_region ?_
      refine wl_val (v := .slice none 0 0) (fun ρ e => ex_assign (e _ _ rfl)) rfl rfl ?_
      refine wl_nil ?_
      refine xw_next K1 ?_
      refine cw_seq (fun FK2 K2 => ?_)
      refine cw_region ?_
      refine wl_val (v := .slice (some ⟨b, o, none⟩) ts.length c0) (fun ρ e => ex_move (e _ _ rfl)) rfl rfl ?_
      refine wl_val (v := .int .i64 (i : Int)) (fun ρ e => ex_move (e _ _ rfl)) rfl rfl ?_
      refine wl_val (v := .pointer (some ⟨b, o + i * 3, none⟩)) (fun ρ e => ex_idx (q := o + i * 3) (i := i) el23 (e _ _ rfl) (e _ _ rfl) (by omega) (by omega)) rfl rfl ?_
      refine wl_val (v := .agg #[.int .i64 (-1), .int .i64 (-1), .int .i64 v]) (fun ρ e => ex_loadN (vs := [.int .i64 (-1), .int .i64 (-1), .int .i64 v]) ty38 (e _ _ rfl) rfl (cells3 (NodesD.c0 ((O0.ro 1 rfl : (fun w => NodesD D w (.slice (some ⟨b, o, none⟩) ts.length c0) ts) _) : NodesD _ _ _ _) hx) (NodesD.c1 ((O0.ro 1 rfl : (fun w => NodesD D w (.slice (some ⟨b, o, none⟩) ts.length c0) ts) _) : NodesD _ _ _ _) hx) (NodesD.c2 ((O0.ro 1 rfl : (fun w => NodesD D w (.slice (some ⟨b, o, none⟩) ts.length c0) ts) _) : NodesD _ _ _ _) hx))) rfl rfl ?_
      obtain ⟨g3, w4, r5, O6, hg7, hs8⟩ := own_alloc O0 38 ze38 rfl
      refine wl_val (v := .pointer (some ⟨g3, 0, none⟩)) (fun ρ e => r5 ρ _ _ _ _ _) rfl rfl ?_
      obtain ⟨w9, r10, O11, hs12⟩ := own_put (o := 0) (n := 3) O6 ty38 (.agg #[.int .i64 (-1), .int .i64 (-1), .int .i64 v]) [.int .i64 (-1), .int .i64 (-1), .int .i64 v] (cs' := #[.int .i64 (-1), .int .i64 (-1), .int .i64 v]) rfl rfl rfl (Nat.le_of_ble_eq_true rfl) rfl
      refine wl_none (fun ρ e => r10 ρ _ _ _ _ _ _ (e _ _ rfl) (e _ _ rfl)) rfl ?_
      refine wl_nil ?_
      refine xw_next K2 ?_
      refine cw_seq (fun FK13 K13 => ?_)
      refine cw_seq (fun FK14 K14 => ?_)
      refine cw_region ?_
      refine wl_val (v := .agg #[.int .i64 (-1), .int .i64 (-1), .int .i64 v]) (fun ρ e => ex_loadN (vs := [.int .i64 (-1), .int .i64 (-1), .int .i64 v]) ty38 (e _ _ rfl) rfl (O11.cells 0 0 rfl rfl)) rfl rfl ?_
      refine wl_call (args := [.agg #[.int .i64 (-1), .int .i64 (-1), .int .i64 v]]) in_72 rfl rfl rfl ?_
      refine (rleaf_ (VN.mk (-1) (-1) v) (W := w9)).mono ?_
      rintro _ w15 ⟨rfl, hb16⟩
      have O17 : Own Z w0 w15 [.blk g3 38 #[.int .i64 (-1), .int .i64 (-1), .int .i64 v], .row (.slice A n c) 38 3 n (ncells l), .ro D (fun w => NodesD D w (.slice (some ⟨b, o, none⟩) ts.length c0) ts)] := O11.below hb16
      refine ⟨_, rfl, ?_⟩
      refine wl_nil ?_
      refine xw_next K14 ?_
      refine cw_true (congrArg (fun b => some (Value.bool b)) hlf) ?_
      refine cw_seq (fun FK18 K18 => ?_)
      refine cw_region ?_
      refine wl_val (v := .slice A n c) (fun ρ e => ex_move (e _ _ rfl)) rfl rfl ?_
      refine wl_val (v := .agg #[.int .i64 (-1), .int .i64 (-1), .int .i64 v]) (fun ρ e => ex_loadN (vs := [.int .i64 (-1), .int .i64 (-1), .int .i64 v]) ty38 (e _ _ rfl) rfl (O17.cells 0 0 rfl rfl)) rfl rfl ?_
      obtain ⟨g19, w20, r21, O22, hg23, hs24⟩ := own_slice O17 el23 ze38 1 [(0, .agg #[.int .i64 (-1), .int .i64 (-1), .int .i64 v])] (cs := #[.int .i64 (-1), .int .i64 (-1), .int .i64 v]) (by decide) (by kernel_rfl)
      refine wl_val (v := .slice (some ⟨g19, 0, none⟩) 1 1) (fun ρ e => r21 ρ _ _ _ _ _ _ (e.parts rfl)) rfl rfl ?_
      obtain ⟨A25, c26, w27, r28, O29, hz30, hc31⟩ := own_app1 (O22.re [2, 0, 1, 3] rfl : Own Z w0 w20 [.row (.slice A n c) 38 3 n (ncells l), .blk g19 38 #[.int .i64 (-1), .int .i64 (-1), .int .i64 v], .blk g3 38 #[.int .i64 (-1), .int .i64 (-1), .int .i64 v], .ro D (fun w => NodesD D w (.slice (some ⟨b, o, none⟩) ts.length c0) ts)]) ap23 ((O22.re [2, 0, 1, 3] rfl : Own Z w0 w20 [.row (.slice A n c) 38 3 n (ncells l), .blk g19 38 #[.int .i64 (-1), .int .i64 (-1), .int .i64 v], .blk g3 38 #[.int .i64 (-1), .int .i64 (-1), .int .i64 v], .ro D (fun w => NodesD D w (.slice (some ⟨b, o, none⟩) ts.length c0) ts)]).blk 1 rfl) (cells := [.int .i64 (-1), .int .i64 (-1), .int .i64 v]) rfl rfl (by omega) (by omega) (ys := (ncells (l ++ [(VN.mk (-1) (-1) v)]))) (ncells_snoc l (VN.mk (-1) (-1) v))
      refine wl_val (v := .slice A25 (n + 1) c26) (fun ρ e => r28 ρ _ _ _ _ _ _ _ (e _ _ rfl) (e _ _ rfl)) rfl rfl ?_
      refine wl_val (v := .slice A25 (n + 1) c26) (fun ρ e => ex_assign (e _ _ rfl)) rfl rfl ?_
      refine wl_nil ?_
      refine xw_next K18 ?_
      refine cw_ret ?_
      refine xw_past (by intro h; cases h) ?_
      refine xw_ret (v := .slice A25 (n + 1) c26) (fun T hT => res1 rfl T _ (hT 10 _ rfl)) ?_
      have hn : n + 1 = n + Tr.size (chT ts 3 at_ (k + 1) i) := by rw [hT]; simp only [Tr.size] <;> omega
      have hl : (l ++ [(VN.mk (-1) (-1) v)]) = l ++ post (chT ts 3 at_ (k + 1) i) n := by rw [hT]; simp [post, Tr.size, Nat.add_assoc]
      have hO := (O29.re [0, 3] rfl : Own Z w0 w27 [.row (.slice A25 (n + 1) c26) 38 3 (n + 1) (ncells (l ++ [(VN.mk (-1) (-1) v)])), .ro D (fun w => NodesD D w (.slice (some ⟨b, o, none⟩) ts.length c0) ts)])
      rw [hn, hl] at hO
      exact ⟨A25, c26, by rw [hn], hO⟩
    · have hx : ts[i]? = some ⟨(a : Int), (b2 : Int), 0⟩ := by rw [List.getElem?_eq_getElem hi, hx0]
      by_cases hne : i = at_
      · subst hne
        exact rchg3_at hV hle hat hik hi IH Z w0 W A n c l O0 hlim
      · skip
        have hlf : lf (VN.mk (a : Int) (b2 : Int) 0) = false := lf_inner a b2
        have hT : (chT ts 3 at_ (k + 1) i) = .node (chT ts 3 at_ k a) (chT ts 3 at_ k b2) := chT_node hx hne
        have hsa := Tr.size_pos (chT ts 3 at_ k a)
        have hsb := Tr.size_pos (chT ts 3 at_ k b2)
        rw [hT] at hlim
        simp only [Tr.size] at hlim
        refine sx_enter (args := [.slice (some ⟨b, o, none⟩) ts.length c0, .int .i64 (i : Int), .int .i64 (at_ : Int), .int .i64 3, .slice A n c]) Tryd.func65 rfl rfl (by simp) ?_
        refine cw_seq (fun FK1 K1 => ?_)
        refine cw_region ?_
        refine wl_val (v := .slice none 0 0) (fun ρ e => ex_assign (e _ _ rfl)) rfl rfl ?_
        refine wl_nil ?_
        refine xw_next K1 ?_
        refine cw_seq (fun FK2 K2 => ?_)
        refine cw_region ?_
        refine wl_val (v := .slice (some ⟨b, o, none⟩) ts.length c0) (fun ρ e => ex_move (e _ _ rfl)) rfl rfl ?_
        refine wl_val (v := .int .i64 (i : Int)) (fun ρ e => ex_move (e _ _ rfl)) rfl rfl ?_
        refine wl_val (v := .pointer (some ⟨b, o + i * 3, none⟩)) (fun ρ e => ex_idx (q := o + i * 3) (i := i) el23 (e _ _ rfl) (e _ _ rfl) (by omega) (by omega)) rfl rfl ?_
        refine wl_val (v := .agg #[.int .i64 (a : Int), .int .i64 (b2 : Int), .int .i64 0]) (fun ρ e => ex_loadN (vs := [.int .i64 (a : Int), .int .i64 (b2 : Int), .int .i64 0]) ty38 (e _ _ rfl) rfl (cells3 (NodesD.c0 ((O0.ro 1 rfl : (fun w => NodesD D w (.slice (some ⟨b, o, none⟩) ts.length c0) ts) _) : NodesD _ _ _ _) hx) (NodesD.c1 ((O0.ro 1 rfl : (fun w => NodesD D w (.slice (some ⟨b, o, none⟩) ts.length c0) ts) _) : NodesD _ _ _ _) hx) (NodesD.c2 ((O0.ro 1 rfl : (fun w => NodesD D w (.slice (some ⟨b, o, none⟩) ts.length c0) ts) _) : NodesD _ _ _ _) hx))) rfl rfl ?_
        obtain ⟨g3, w4, r5, O6, hg7, hs8⟩ := own_alloc O0 38 ze38 rfl
        refine wl_val (v := .pointer (some ⟨g3, 0, none⟩)) (fun ρ e => r5 ρ _ _ _ _ _) rfl rfl ?_
        obtain ⟨w9, r10, O11, hs12⟩ := own_put (o := 0) (n := 3) O6 ty38 (.agg #[.int .i64 (a : Int), .int .i64 (b2 : Int), .int .i64 0]) [.int .i64 (a : Int), .int .i64 (b2 : Int), .int .i64 0] (cs' := #[.int .i64 (a : Int), .int .i64 (b2 : Int), .int .i64 0]) rfl rfl rfl (Nat.le_of_ble_eq_true rfl) rfl
        refine wl_none (fun ρ e => r10 ρ _ _ _ _ _ _ (e _ _ rfl) (e _ _ rfl)) rfl ?_
        refine wl_nil ?_
        refine xw_next K2 ?_
        refine cw_seq (fun FK13 K13 => ?_)
        refine cw_seq (fun FK14 K14 => ?_)
        refine cw_region ?_
        refine wl_val (v := .agg #[.int .i64 (a : Int), .int .i64 (b2 : Int), .int .i64 0]) (fun ρ e => ex_loadN (vs := [.int .i64 (a : Int), .int .i64 (b2 : Int), .int .i64 0]) ty38 (e _ _ rfl) rfl (O11.cells 0 0 rfl rfl)) rfl rfl ?_
        refine wl_call (args := [.agg #[.int .i64 (a : Int), .int .i64 (b2 : Int), .int .i64 0]]) in_72 rfl rfl rfl ?_
        refine (rleaf_ (VN.mk (a : Int) (b2 : Int) 0) (W := w9)).mono ?_
        rintro _ w15 ⟨rfl, hb16⟩
        have O17 : Own Z w0 w15 [.blk g3 38 #[.int .i64 (a : Int), .int .i64 (b2 : Int), .int .i64 0], .row (.slice A n c) 38 3 n (ncells l), .ro D (fun w => NodesD D w (.slice (some ⟨b, o, none⟩) ts.length c0) ts)] := O11.below hb16
        refine ⟨_, rfl, ?_⟩
        refine wl_nil ?_
        refine xw_next K14 ?_
        refine cw_false (congrArg (fun b => some (Value.bool b)) hlf) ?_
        refine cw_skip ?_
        refine xw_next K13 ?_
        refine cw_seq (fun FK18 K18 => ?_)
        refine cw_seq (fun FK19 K19 => ?_)
        refine cw_region ?_
        refine wl_val (v := .int .i64 (i : Int)) (fun ρ e => ex_move (e _ _ rfl)) rfl rfl ?_
        refine wl_val (v := .int .i64 (at_ : Int)) (fun ρ e => ex_move (e _ _ rfl)) rfl rfl ?_
        refine wl_val (v := .bool false) (fun ρ e => ex_cmp (u := (i : Int)) (v := (at_ : Int)) (e _ _ rfl) (e _ _ rfl) (eql0 (by omega))) rfl rfl ?_
        refine wl_val (v := .bool false) (fun ρ e => ex_move (e _ _ rfl)) rfl rfl ?_
        refine wl_skip rfl rfl ?_
        refine wl_skip rfl rfl ?_
        refine wl_val (v := .bool false) (fun ρ e => ex_pick0 (e _ _ rfl) (e _ _ rfl)) rfl rfl ?_
        refine wl_nil ?_
        refine xw_next K19 ?_
        refine cw_false rfl ?_
        refine cw_skip ?_
        refine xw_next K18 ?_
        refine cw_seq (fun FK20 K20 => ?_)
        refine cw_seq (fun FK21 K21 => ?_)
        refine cw_region ?_
        refine wl_val (v := .int .i64 (i : Int)) (fun ρ e => ex_move (e _ _ rfl)) rfl rfl ?_
        refine wl_val (v := .int .i64 (at_ : Int)) (fun ρ e => ex_move (e _ _ rfl)) rfl rfl ?_
        refine wl_val (v := .bool false) (fun ρ e => ex_cmp (u := (i : Int)) (v := (at_ : Int)) (e _ _ rfl) (e _ _ rfl) (eql0 (by omega))) rfl rfl ?_
        refine wl_val (v := .bool false) (fun ρ e => ex_move (e _ _ rfl)) rfl rfl ?_
        refine wl_skip rfl rfl ?_
        refine wl_skip rfl rfl ?_
        refine wl_val (v := .bool false) (fun ρ e => ex_pick0 (e _ _ rfl) (e _ _ rfl)) rfl rfl ?_
        refine wl_nil ?_
        refine xw_next K21 ?_
        refine cw_false rfl ?_
        refine cw_skip ?_
        refine xw_next K20 ?_
        refine cw_seq (fun FK22 K22 => ?_)
        refine cw_region ?_
        refine wl_val (v := .pointer (some ⟨g3, 0, none⟩)) (fun ρ e => ex_field (q := 0) fi38_0 (e _ _ rfl) rfl) rfl rfl ?_
        refine wl_val (v := .int .i64 (a : Int)) (fun ρ e => ex_load1 ty3 (e _ _ rfl) (O17.cell 0 0 rfl rfl)) rfl rfl ?_
        refine wl_val (v := .int .i64 (a : Int)) (fun ρ e => ex_assign (e _ _ rfl)) rfl rfl ?_
        refine wl_nil ?_
        refine xw_next K22 ?_
        refine cw_seq (fun FK23 K23 => ?_)
        refine cw_region ?_
        refine wl_val (v := .pointer (some ⟨g3, 1, none⟩)) (fun ρ e => ex_field (q := 1) fi38_1 (e _ _ rfl) rfl) rfl rfl ?_
        refine wl_val (v := .int .i64 (b2 : Int)) (fun ρ e => ex_load1 ty3 (e _ _ rfl) (O17.cell 0 1 rfl rfl)) rfl rfl ?_
        refine wl_val (v := .int .i64 (b2 : Int)) (fun ρ e => ex_assign (e _ _ rfl)) rfl rfl ?_
        refine wl_nil ?_
        refine xw_next K23 ?_
        refine cw_seq (fun FK24 K24 => ?_)
        refine cw_seq (fun FK25 K25 => ?_)
        refine cw_region ?_
        refine wl_val (v := .int .i64 (i : Int)) (fun ρ e => ex_move (e _ _ rfl)) rfl rfl ?_
        refine wl_val (v := .int .i64 (at_ : Int)) (fun ρ e => ex_move (e _ _ rfl)) rfl rfl ?_
        refine wl_val (v := .bool false) (fun ρ e => ex_cmp (u := (i : Int)) (v := (at_ : Int)) (e _ _ rfl) (e _ _ rfl) (eql0 (by omega))) rfl rfl ?_
        refine wl_val (v := .bool false) (fun ρ e => ex_move (e _ _ rfl)) rfl rfl ?_
        refine wl_skip rfl rfl ?_
        refine wl_skip rfl rfl ?_
        refine wl_val (v := .bool false) (fun ρ e => ex_pick0 (e _ _ rfl) (e _ _ rfl)) rfl rfl ?_
        refine wl_nil ?_
        refine xw_next K25 ?_
        refine cw_false rfl ?_
        refine cw_skip ?_
        refine xw_next K24 ?_
        refine cw_seq (fun FK26 K26 => ?_)
        refine cw_region ?_
        refine wl_val (v := .slice (some ⟨b, o, none⟩) ts.length c0) (fun ρ e => ex_move (e _ _ rfl)) rfl rfl ?_
        refine wl_val (v := .int .i64 (a : Int)) (fun ρ e => ex_move (e _ _ rfl)) rfl rfl ?_
        refine wl_val (v := .int .i64 (at_ : Int)) (fun ρ e => ex_move (e _ _ rfl)) rfl rfl ?_
        refine wl_val (v := .int .i64 3) (fun ρ e => ex_move (e _ _ rfl)) rfl rfl ?_
        refine wl_val (v := .slice A n c) (fun ρ e => ex_move (e _ _ rfl)) rfl rfl ?_
        refine wl_call (args := [.slice (some ⟨b, o, none⟩) ts.length c0, .int .i64 (a : Int), .int .i64 (at_ : Int), .int .i64 3, .slice A n c]) in_65 rfl rfl rfl ?_
        have O31h := Own.hand (A := [.row (.slice A n c) 38 3 n (ncells l), .ro D (fun w => NodesD D w (.slice (some ⟨b, o, none⟩) ts.length c0) ts)]) (R := [.blk g3 38 #[.int .i64 (a : Int), .int .i64 (b2 : Int), .int .i64 0]]) (O17.re [1, 2, 0] rfl : Own Z w0 w15 [.row (.slice A n c) 38 3 n (ncells l), .ro D (fun w => NodesD D w (.slice (some ⟨b, o, none⟩) ts.length c0) ts), .blk g3 38 #[.int .i64 (a : Int), .int .i64 (b2 : Int), .int .i64 0]])
        refine (IH a (by omega) (by omega) _ _ _ _ _ _ l O31h (by omega)).mono ?_
        rintro _ w29 ⟨A27, c28, rfl, h30⟩
        have O31 : Own Z w0 w29 [.row (.slice A27 (n + Tr.size (chT ts 3 at_ k a)) c28) 38 3 (n + Tr.size (chT ts 3 at_ k a)) (ncells (l ++ post (chT ts 3 at_ k a) n)), .ro D (fun w => NodesD D w (.slice (some ⟨b, o, none⟩) ts.length c0) ts), .blk g3 38 #[.int .i64 (a : Int), .int .i64 (b2 : Int), .int .i64 0]] := Own.frame (A := [.row (.slice A n c) 38 3 n (ncells l), .ro D (fun w => NodesD D w (.slice (some ⟨b, o, none⟩) ts.length c0) ts)]) (R := [.blk g3 38 #[.int .i64 (a : Int), .int .i64 (b2 : Int), .int .i64 0]]) (O17.re [1, 2, 0] rfl : Own Z w0 w15 [.row (.slice A n c) 38 3 n (ncells l), .ro D (fun w => NodesD D w (.slice (some ⟨b, o, none⟩) ts.length c0) ts), .blk g3 38 #[.int .i64 (a : Int), .int .i64 (b2 : Int), .int .i64 0]]) h30
        refine ⟨_, rfl, ?_⟩
        refine wl_val (v := .slice A27 (n + Tr.size (chT ts 3 at_ k a)) c28) (fun ρ e => ex_assign (e _ _ rfl)) rfl rfl ?_
        refine wl_nil ?_
        refine xw_next K26 ?_
        refine cw_seq (fun FK32 K32 => ?_)
        refine cw_region ?_
        refine wl_val (v := .slice A27 (n + Tr.size (chT ts 3 at_ k a)) c28) (fun ρ e => ex_move (e _ _ rfl)) rfl rfl ?_
        refine wl_val (v := .int .i64 (((n + Tr.size (chT ts 3 at_ k a)) : Nat) : Int)) (fun ρ e => ex_len el23 (e _ _ rfl)) rfl rfl ?_
        refine wl_val (v := .int .i64 (((n + Tr.size (chT ts 3 at_ k a)) - 1 : Nat) : Int)) (fun ρ e => ex_arith (k := .i64) (u := (((n + Tr.size (chT ts 3 at_ k a)) : Nat) : Int)) (v := 1) (e _ _ rfl) (e _ _ rfl) (congrArg some ((congrArg _ (show _ = (((n + Tr.size (chT ts 3 at_ k a)) - 1 : Nat) : Int) by omega)).trans (wrap_in (by omega) (by omega))))) rfl rfl ?_
        refine wl_val (v := .int .i64 (((n + Tr.size (chT ts 3 at_ k a)) - 1 : Nat) : Int)) (fun ρ e => ex_assign (e _ _ rfl)) rfl rfl ?_
        refine wl_nil ?_
        refine xw_next K32 ?_
        refine cw_seq (fun FK33 K33 => ?_)
        refine cw_region ?_
        refine wl_val (v := .slice (some ⟨b, o, none⟩) ts.length c0) (fun ρ e => ex_move (e _ _ rfl)) rfl rfl ?_
        refine wl_val (v := .int .i64 (b2 : Int)) (fun ρ e => ex_move (e _ _ rfl)) rfl rfl ?_
        refine wl_val (v := .int .i64 (at_ : Int)) (fun ρ e => ex_move (e _ _ rfl)) rfl rfl ?_
        refine wl_val (v := .int .i64 3) (fun ρ e => ex_move (e _ _ rfl)) rfl rfl ?_
        refine wl_val (v := .slice A27 (n + Tr.size (chT ts 3 at_ k a)) c28) (fun ρ e => ex_move (e _ _ rfl)) rfl rfl ?_
        refine wl_call (args := [.slice (some ⟨b, o, none⟩) ts.length c0, .int .i64 (b2 : Int), .int .i64 (at_ : Int), .int .i64 3, .slice A27 (n + Tr.size (chT ts 3 at_ k a)) c28]) in_65 rfl rfl rfl ?_
        have O38h := Own.hand (A := [.row (.slice A27 (n + Tr.size (chT ts 3 at_ k a)) c28) 38 3 (n + Tr.size (chT ts 3 at_ k a)) (ncells (l ++ post (chT ts 3 at_ k a) n)), .ro D (fun w => NodesD D w (.slice (some ⟨b, o, none⟩) ts.length c0) ts)]) (R := [.blk g3 38 #[.int .i64 (a : Int), .int .i64 (b2 : Int), .int .i64 0]]) O31
        refine (IH b2 (by omega) (by omega) _ _ _ _ _ _ (l ++ post (chT ts 3 at_ k a) n) O38h (by omega)).mono ?_
        rintro _ w36 ⟨A34, c35, rfl, h37⟩
        have O38 : Own Z w0 w36 [.row (.slice A34 ((n + Tr.size (chT ts 3 at_ k a)) + Tr.size (chT ts 3 at_ k b2)) c35) 38 3 ((n + Tr.size (chT ts 3 at_ k a)) + Tr.size (chT ts 3 at_ k b2)) (ncells ((l ++ post (chT ts 3 at_ k a) n) ++ post (chT ts 3 at_ k b2) (n + Tr.size (chT ts 3 at_ k a)))), .ro D (fun w => NodesD D w (.slice (some ⟨b, o, none⟩) ts.length c0) ts), .blk g3 38 #[.int .i64 (a : Int), .int .i64 (b2 : Int), .int .i64 0]] := Own.frame (A := [.row (.slice A27 (n + Tr.size (chT ts 3 at_ k a)) c28) 38 3 (n + Tr.size (chT ts 3 at_ k a)) (ncells (l ++ post (chT ts 3 at_ k a) n)), .ro D (fun w => NodesD D w (.slice (some ⟨b, o, none⟩) ts.length c0) ts)]) (R := [.blk g3 38 #[.int .i64 (a : Int), .int .i64 (b2 : Int), .int .i64 0]]) O31 h37
        refine ⟨_, rfl, ?_⟩
        refine wl_val (v := .slice A34 ((n + Tr.size (chT ts 3 at_ k a)) + Tr.size (chT ts 3 at_ k b2)) c35) (fun ρ e => ex_assign (e _ _ rfl)) rfl rfl ?_
        refine wl_nil ?_
        refine xw_next K33 ?_
        refine cw_seq (fun FK39 K39 => ?_)
        refine cw_region ?_
        refine wl_val (v := .slice A34 ((n + Tr.size (chT ts 3 at_ k a)) + Tr.size (chT ts 3 at_ k b2)) c35) (fun ρ e => ex_move (e _ _ rfl)) rfl rfl ?_
        refine wl_val (v := .int .i64 (((n + Tr.size (chT ts 3 at_ k a)) - 1 : Nat) : Int)) (fun ρ e => ex_move (e _ _ rfl)) rfl rfl ?_
        refine wl_val (v := .slice A34 ((n + Tr.size (chT ts 3 at_ k a)) + Tr.size (chT ts 3 at_ k b2)) c35) (fun ρ e => ex_move (e _ _ rfl)) rfl rfl ?_
        refine wl_val (v := .int .i64 ((((n + Tr.size (chT ts 3 at_ k a)) + Tr.size (chT ts 3 at_ k b2)) : Nat) : Int)) (fun ρ e => ex_len el23 (e _ _ rfl)) rfl rfl ?_
        refine wl_val (v := .int .i64 ((((n + Tr.size (chT ts 3 at_ k a)) + Tr.size (chT ts 3 at_ k b2)) - 1 : Nat) : Int)) (fun ρ e => ex_arith (k := .i64) (u := ((((n + Tr.size (chT ts 3 at_ k a)) + Tr.size (chT ts 3 at_ k b2)) : Nat) : Int)) (v := 1) (e _ _ rfl) (e _ _ rfl) (congrArg some ((congrArg _ (show _ = ((((n + Tr.size (chT ts 3 at_ k a)) + Tr.size (chT ts 3 at_ k b2)) - 1 : Nat) : Int) by omega)).trans (wrap_in (by omega) (by omega))))) rfl rfl ?_
        refine wl_val (v := .agg #[.int .i64 (((n + Tr.size (chT ts 3 at_ k a)) - 1 : Nat) : Int), .int .i64 ((((n + Tr.size (chT ts 3 at_ k a)) + Tr.size (chT ts 3 at_ k b2)) - 1 : Nat) : Int), .int .i64 0]) (fun ρ e => ex_build (cells := #[.int .i64 (((n + Tr.size (chT ts 3 at_ k a)) - 1 : Nat) : Int), .int .i64 ((((n + Tr.size (chT ts 3 at_ k a)) + Tr.size (chT ts 3 at_ k b2)) - 1 : Nat) : Int), .int .i64 0]) st38 (e.parts rfl) rfl) rfl rfl ?_
        obtain ⟨g40, w41, r42, O43, hg44, hs45⟩ := own_slice O38 el23 ze38 1 [(0, .agg #[.int .i64 (((n + Tr.size (chT ts 3 at_ k a)) - 1 : Nat) : Int), .int .i64 ((((n + Tr.size (chT ts 3 at_ k a)) + Tr.size (chT ts 3 at_ k b2)) - 1 : Nat) : Int), .int .i64 0])] (cs := #[.int .i64 (((n + Tr.size (chT ts 3 at_ k a)) - 1 : Nat) : Int), .int .i64 ((((n + Tr.size (chT ts 3 at_ k a)) + Tr.size (chT ts 3 at_ k b2)) - 1 : Nat) : Int), .int .i64 0]) (by decide) (by kernel_rfl)
        refine wl_val (v := .slice (some ⟨g40, 0, none⟩) 1 1) (fun ρ e => r42 ρ _ _ _ _ _ _ (e.parts rfl)) rfl rfl ?_
        obtain ⟨A46, c47, w48, r49, O50, hz51, hc52⟩ := own_app1 (O43.re [1, 0, 2, 3] rfl : Own Z w0 w41 [.row (.slice A34 ((n + Tr.size (chT ts 3 at_ k a)) + Tr.size (chT ts 3 at_ k b2)) c35) 38 3 ((n + Tr.size (chT ts 3 at_ k a)) + Tr.size (chT ts 3 at_ k b2)) (ncells ((l ++ post (chT ts 3 at_ k a) n) ++ post (chT ts 3 at_ k b2) (n + Tr.size (chT ts 3 at_ k a)))), .blk g40 38 #[.int .i64 (((n + Tr.size (chT ts 3 at_ k a)) - 1 : Nat) : Int), .int .i64 ((((n + Tr.size (chT ts 3 at_ k a)) + Tr.size (chT ts 3 at_ k b2)) - 1 : Nat) : Int), .int .i64 0], .ro D (fun w => NodesD D w (.slice (some ⟨b, o, none⟩) ts.length c0) ts), .blk g3 38 #[.int .i64 (a : Int), .int .i64 (b2 : Int), .int .i64 0]]) ap23 ((O43.re [1, 0, 2, 3] rfl : Own Z w0 w41 [.row (.slice A34 ((n + Tr.size (chT ts 3 at_ k a)) + Tr.size (chT ts 3 at_ k b2)) c35) 38 3 ((n + Tr.size (chT ts 3 at_ k a)) + Tr.size (chT ts 3 at_ k b2)) (ncells ((l ++ post (chT ts 3 at_ k a) n) ++ post (chT ts 3 at_ k b2) (n + Tr.size (chT ts 3 at_ k a)))), .blk g40 38 #[.int .i64 (((n + Tr.size (chT ts 3 at_ k a)) - 1 : Nat) : Int), .int .i64 ((((n + Tr.size (chT ts 3 at_ k a)) + Tr.size (chT ts 3 at_ k b2)) - 1 : Nat) : Int), .int .i64 0], .ro D (fun w => NodesD D w (.slice (some ⟨b, o, none⟩) ts.length c0) ts), .blk g3 38 #[.int .i64 (a : Int), .int .i64 (b2 : Int), .int .i64 0]]).blk 1 rfl) (cells := [.int .i64 (((n + Tr.size (chT ts 3 at_ k a)) - 1 : Nat) : Int), .int .i64 ((((n + Tr.size (chT ts 3 at_ k a)) + Tr.size (chT ts 3 at_ k b2)) - 1 : Nat) : Int), .int .i64 0]) rfl rfl (by omega) (by omega) (ys := (ncells (((l ++ post (chT ts 3 at_ k a) n) ++ post (chT ts 3 at_ k b2) (n + Tr.size (chT ts 3 at_ k a))) ++ [(VN.mk (((n + Tr.size (chT ts 3 at_ k a)) - 1 : Nat) : Int) ((((n + Tr.size (chT ts 3 at_ k a)) + Tr.size (chT ts 3 at_ k b2)) - 1 : Nat) : Int) 0)]))) (ncells_snoc ((l ++ post (chT ts 3 at_ k a) n) ++ post (chT ts 3 at_ k b2) (n + Tr.size (chT ts 3 at_ k a))) (VN.mk (((n + Tr.size (chT ts 3 at_ k a)) - 1 : Nat) : Int) ((((n + Tr.size (chT ts 3 at_ k a)) + Tr.size (chT ts 3 at_ k b2)) - 1 : Nat) : Int) 0))
        refine wl_val (v := .slice A46 (((n + Tr.size (chT ts 3 at_ k a)) + Tr.size (chT ts 3 at_ k b2)) + 1) c47) (fun ρ e => r49 ρ _ _ _ _ _ _ _ (e _ _ rfl) (e _ _ rfl)) rfl rfl ?_
        refine wl_val (v := .slice A46 (((n + Tr.size (chT ts 3 at_ k a)) + Tr.size (chT ts 3 at_ k b2)) + 1) c47) (fun ρ e => ex_assign (e _ _ rfl)) rfl rfl ?_
        refine wl_nil ?_
        refine xw_next K39 ?_
        refine cw_ret ?_
        refine xw_ret (v := .slice A46 (((n + Tr.size (chT ts 3 at_ k a)) + Tr.size (chT ts 3 at_ k b2)) + 1) c47) (fun T hT => res1 rfl T _ (hT 10 _ rfl)) ?_
        have hn : ((n + Tr.size (chT ts 3 at_ k a)) + Tr.size (chT ts 3 at_ k b2)) + 1 = n + Tr.size (chT ts 3 at_ (k + 1) i) := by rw [hT]; simp only [Tr.size] <;> omega
        have hl : (((l ++ post (chT ts 3 at_ k a) n) ++ post (chT ts 3 at_ k b2) (n + Tr.size (chT ts 3 at_ k a))) ++ [(VN.mk (((n + Tr.size (chT ts 3 at_ k a)) - 1 : Nat) : Int) ((((n + Tr.size (chT ts 3 at_ k a)) + Tr.size (chT ts 3 at_ k b2)) - 1 : Nat) : Int) 0)]) = l ++ post (chT ts 3 at_ (k + 1) i) n := by rw [hT]; simp [post, Tr.size, Nat.add_assoc]
        have hO := (O50.re [0, 2] rfl : Own Z w0 w48 [.row (.slice A46 (((n + Tr.size (chT ts 3 at_ k a)) + Tr.size (chT ts 3 at_ k b2)) + 1) c47) 38 3 (((n + Tr.size (chT ts 3 at_ k a)) + Tr.size (chT ts 3 at_ k b2)) + 1) (ncells (((l ++ post (chT ts 3 at_ k a) n) ++ post (chT ts 3 at_ k b2) (n + Tr.size (chT ts 3 at_ k a))) ++ [(VN.mk (((n + Tr.size (chT ts 3 at_ k a)) - 1 : Nat) : Int) ((((n + Tr.size (chT ts 3 at_ k a)) + Tr.size (chT ts 3 at_ k b2)) - 1 : Nat) : Int) 0)])), .ro D (fun w => NodesD D w (.slice (some ⟨b, o, none⟩) ts.length c0) ts)])
        rw [hn, hl] at hO
        exact ⟨A46, c47, by rw [hn], hO⟩
theorem rinner_ {W : World} {D : Nat → Prop} {V : Value} {ts : List VN} (hN : NodesD D W V ts) (hD : ∀ k, D k → k < W.heap.size) (i : Int) :
    Calls Tryd.prog 64 #[V, .int .i64 i] W fun e w' => e = .returned (.bool (innerB ts i)) ∧ Below W.heap.size W w' := by
  obtain ⟨A, c, rfl⟩ := hN.slice
  have O0 : Own Z0 W W [] := Own.start W
  refine sx_enter (args := [.slice A ts.length c, .int .i64 i]) Tryd.func64 rfl rfl (by simp) ?_
  refine cw_seq (fun FK1 K1 => ?_)
  refine cw_region ?_
  refine wl_val (v := .bool false) (fun ρ e => ex_assign (e _ _ rfl)) rfl rfl ?_
  refine wl_nil ?_
  refine xw_next K1 ?_
  refine cw_seq (fun FK2 K2 => ?_)
  refine cw_region ?_
  refine wl_val (v := .int .i64 i) (fun ρ e => ex_move (e _ _ rfl)) rfl rfl ?_
  by_cases c3 : i ≥ 0
  · skip
    obtain ⟨k, rfl⟩ : ∃ n : Nat, i = n := ⟨i.toNat, by omega⟩
    refine wl_val (v := .bool true) (fun ρ e => ex_cmp (u := (k : Int)) (v := 0) (e _ _ rfl) (e _ _ rfl) (geq1 (by omega))) rfl rfl ?_
    refine wl_val (v := .bool true) (fun ρ e => ex_move (e _ _ rfl)) rfl rfl ?_
    refine wl_val (v := .int .i64 (k : Int)) (fun ρ e => ex_move (e _ _ rfl)) rfl rfl ?_
    refine wl_val (v := .slice A ts.length c) (fun ρ e => ex_move (e _ _ rfl)) rfl rfl ?_
    refine wl_val (v := .int .i64 ((ts.length : Nat) : Int)) (fun ρ e => ex_len el23 (e _ _ rfl)) rfl rfl ?_
    by_cases c4 : (k : Int) < ((ts.length : Nat) : Int)
    · skip
      obtain ⟨b, o, c', hv, hDb⟩ := hN.form (by omega)
      injection hv with hA _ hc
      subst hA hc
      obtain ⟨⟨xl, xr, xv⟩, hx⟩ : ∃ x, ts[k]? = some x := ⟨ts[k], List.getElem?_eq_getElem (by omega)⟩
      have O5 := O0.oldro (D := D) (p := (fun w => NodesD D w (.slice (some ⟨b, o, none⟩) ts.length c) ts)) (nodesE_holds hN hD)
      refine wl_val (v := .bool true) (fun ρ e => ex_cmp (u := (k : Int)) (v := ((ts.length : Nat) : Int)) (e _ _ rfl) (e _ _ rfl) (lss1 (by omega))) rfl rfl ?_
      refine wl_val (v := .bool true) (fun ρ e => ex_pick1 (e _ _ rfl) (e _ _ rfl)) rfl rfl ?_
      refine wl_val (v := .bool true) (fun ρ e => ex_move (e _ _ rfl)) rfl rfl ?_
      refine wl_val (v := .slice (some ⟨b, o, none⟩) ts.length c) (fun ρ e => ex_move (e _ _ rfl)) rfl rfl ?_
      refine wl_val (v := .int .i64 (k : Int)) (fun ρ e => ex_move (e _ _ rfl)) rfl rfl ?_
      refine wl_val (v := .pointer (some ⟨b, o + k * 3, none⟩)) (fun ρ e => ex_idx (q := o + k * 3) (i := k) el23 (e _ _ rfl) (e _ _ rfl) (by omega) (by omega)) rfl rfl ?_
      refine wl_val (v := .agg #[.int .i64 xl, .int .i64 xr, .int .i64 xv]) (fun ρ e => ex_loadN (vs := [.int .i64 xl, .int .i64 xr, .int .i64 xv]) ty38 (e _ _ rfl) rfl (cells3 (NodesD.c0 ((O5.ro 0 rfl : (fun w => NodesD D w (.slice (some ⟨b, o, none⟩) ts.length c) ts) _) : NodesD _ _ _ _) hx) (NodesD.c1 ((O5.ro 0 rfl : (fun w => NodesD D w (.slice (some ⟨b, o, none⟩) ts.length c) ts) _) : NodesD _ _ _ _) hx) (NodesD.c2 ((O5.ro 0 rfl : (fun w => NodesD D w (.slice (some ⟨b, o, none⟩) ts.length c) ts) _) : NodesD _ _ _ _) hx))) rfl rfl ?_
      refine wl_call (args := [.agg #[.int .i64 xl, .int .i64 xr, .int .i64 xv]]) in_72 rfl rfl rfl ?_
      refine (rleaf_ (VN.mk xl xr xv) (W := W)).mono ?_
      rintro _ w6 ⟨rfl, hb7⟩
      have O8 : Own Z0 W w6 [.ro D (fun w => NodesD D w (.slice (some ⟨b, o, none⟩) ts.length c) ts)] := O5.below hb7
      refine ⟨_, rfl, ?_⟩
      refine wl_val (v := .bool (!(lf (VN.mk xl xr xv)))) (fun ρ e => ex_lnot (b := (lf (VN.mk xl xr xv))) (e _ _ rfl)) rfl rfl ?_
      refine wl_val (v := .bool (!(lf (VN.mk xl xr xv)))) (fun ρ e => ex_pick1 (e _ _ rfl) (e _ _ rfl)) rfl rfl ?_
      refine wl_val (v := .bool (!(lf (VN.mk xl xr xv)))) (fun ρ e => ex_assign (e _ _ rfl)) rfl rfl ?_
      refine wl_nil ?_
      refine xw_next K2 ?_
      refine cw_ret ?_
      refine xw_ret (v := .bool (!(lf (VN.mk xl xr xv)))) (fun T hT => res1 rfl T _ (hT 4 _ rfl)) ?_
      exact ⟨by simp [innerB, hx], O8.old⟩
    · skip
      refine wl_val (v := .bool false) (fun ρ e => ex_cmp (u := (k : Int)) (v := ((ts.length : Nat) : Int)) (e _ _ rfl) (e _ _ rfl) (lss0 (by omega))) rfl rfl ?_
      refine wl_val (v := .bool false) (fun ρ e => ex_pick1 (e _ _ rfl) (e _ _ rfl)) rfl rfl ?_
      refine wl_val (v := .bool false) (fun ρ e => ex_move (e _ _ rfl)) rfl rfl ?_
      refine wl_skip rfl rfl ?_
      refine wl_skip rfl rfl ?_
      refine wl_skip rfl rfl ?_
      refine wl_skip rfl rfl ?_
      refine wl_skip rfl rfl ?_
      refine wl_skip rfl rfl ?_
      refine wl_val (v := .bool false) (fun ρ e => ex_pick0 (e _ _ rfl) (e _ _ rfl)) rfl rfl ?_
      refine wl_val (v := .bool false) (fun ρ e => ex_assign (e _ _ rfl)) rfl rfl ?_
      refine wl_nil ?_
      refine xw_next K2 ?_
      refine cw_ret ?_
      refine xw_ret (v := .bool false) (fun T hT => res1 rfl T _ (hT 4 _ rfl)) ?_
      have hg : ts[k]? = none := List.getElem?_eq_none (by omega)
      exact ⟨by simp [innerB, hg], O0.old⟩
  · skip
    refine wl_val (v := .bool false) (fun ρ e => ex_cmp (u := i) (v := 0) (e _ _ rfl) (e _ _ rfl) (geq0 (by omega))) rfl rfl ?_
    refine wl_val (v := .bool false) (fun ρ e => ex_move (e _ _ rfl)) rfl rfl ?_
    refine wl_skip rfl rfl ?_
    refine wl_skip rfl rfl ?_
    refine wl_skip rfl rfl ?_
    refine wl_skip rfl rfl ?_
    refine wl_val (v := .bool false) (fun ρ e => ex_pick0 (e _ _ rfl) (e _ _ rfl)) rfl rfl ?_
    refine wl_val (v := .bool false) (fun ρ e => ex_move (e _ _ rfl)) rfl rfl ?_
    refine wl_skip rfl rfl ?_
    refine wl_skip rfl rfl ?_
    refine wl_skip rfl rfl ?_
    refine wl_skip rfl rfl ?_
    refine wl_skip rfl rfl ?_
    refine wl_skip rfl rfl ?_
    refine wl_val (v := .bool false) (fun ρ e => ex_pick0 (e _ _ rfl) (e _ _ rfl)) rfl rfl ?_
    refine wl_val (v := .bool false) (fun ρ e => ex_assign (e _ _ rfl)) rfl rfl ?_
    refine wl_nil ?_
    refine xw_next K2 ?_
    refine cw_ret ?_
    refine xw_ret (v := .bool false) (fun T hT => res1 rfl T _ (hT 4 _ rfl)) ?_
    exact ⟨by simp only [innerB]; rw [decide_eq_false (by omega)]; rfl, O0.old⟩
theorem rinnerb_ {W : World} {D : Nat → Prop} {V : Value} {ts : List VN} (hN : NodesD D W V ts) (hD : ∀ k, D k → k < W.heap.size) {i : Int} {r : Bool} (h : innerB ts i = r) :
    Calls Tryd.prog 64 #[V, .int .i64 i] W fun e w' => e = .returned (.bool r) ∧ Below W.heap.size W w' := h ▸ rinner_ hN hD i
theorem rrotr_ {W : World} {D : Nat → Prop} {V : Value} {ts : List VN} (hN : NodesD D W V ts) (hD : ∀ k, D k → k < W.heap.size) (hsz : ts.length ≤ 1000000) (at_ : Int) :
    Calls Tryd.prog 35 #[V, .int .i64 at_] W fun e w' => ∃ A' c', e = .returned (.tuple #[.slice A' (movOf ts 1 at_).1.length c', .int .i64 (movOf ts 1 at_).2]) ∧ Own Z0 W w' [.row (.slice A' (movOf ts 1 at_).1.length c') 38 3 (movOf ts 1 at_).1.length (ncells (movOf ts 1 at_).1)] := by
  obtain ⟨A, c0, rfl⟩ := hN.slice
  have O0 : Own Z0 W W [] := Own.start W
  refine sx_enter (args := [.slice A ts.length c0, .int .i64 at_]) Tryd.func35 rfl rfl (by simp) ?_
  refine cw_seq (fun FK1 K1 => ?_)
  refine cw_region ?_
  refine wl_val (v := .slice none 0 0) (fun ρ e => ex_assign (e _ _ rfl)) rfl rfl ?_
  refine wl_val (v := .int .i64 0) (fun ρ e => ex_assign (e _ _ rfl)) rfl rfl ?_
  refine wl_nil ?_
  refine xw_next K1 ?_
  refine cw_seq (fun FK2 K2 => ?_)
  refine cw_seq (fun FK3 K3 => ?_)
  refine cw_region ?_
  refine wl_val (v := .slice A ts.length c0) (fun ρ e => ex_move (e _ _ rfl)) rfl rfl ?_
  refine wl_call (args := [.slice A ts.length c0]) in_41 rfl rfl rfl ?_
  refine (rcheck_ (hN.move (fun k hk => (O0.old).block k (hD k hk))) (fun k hk => Nat.lt_of_lt_of_le (hD k hk) (O0.old).size) (by omega)).mono ?_
  rintro _ w4 ⟨rfl, hb5⟩
  have O6 : Own Z0 W w4 [] := O0.below hb5
  refine ⟨_, rfl, ?_⟩
  by_cases c7 : (chkV ts) ≠ 0
  · skip
    refine wl_val (v := .bool true) (fun ρ e => ex_cmp (u := (chkV ts)) (v := 0) (e _ _ rfl) (e _ _ rfl) (neq1 (by omega))) rfl rfl ?_
    refine wl_val (v := .bool true) (fun ρ e => ex_move (e _ _ rfl)) rfl rfl ?_
    refine wl_skip rfl rfl ?_
    refine wl_skip rfl rfl ?_
    refine wl_skip rfl rfl ?_
    refine wl_skip rfl rfl ?_
    refine wl_val (v := .bool true) (fun ρ e => ex_pick1 (e _ _ rfl) (e _ _ rfl)) rfl rfl ?_
    refine wl_val (v := .bool true) (fun ρ e => ex_move (e _ _ rfl)) rfl rfl ?_
    refine wl_skip rfl rfl ?_
    refine wl_skip rfl rfl ?_
    refine wl_skip rfl rfl ?_
    refine wl_skip rfl rfl ?_
    refine wl_skip rfl rfl ?_
    refine wl_skip rfl rfl ?_
    refine wl_skip rfl rfl ?_
    refine wl_skip rfl rfl ?_
    refine wl_val (v := .bool true) (fun ρ e => ex_pick1 (e _ _ rfl) (e _ _ rfl)) rfl rfl ?_
    refine wl_nil ?_
    refine xw_next K3 ?_
    refine cw_true rfl ?_
    refine cw_seq (fun FK8 K8 => ?_)
    refine cw_region ?_
    refine wl_val (v := .slice none 0 0) (fun ρ e => ex_assign (e _ _ rfl)) rfl rfl ?_
    refine wl_val (v := .int .i64 1) (fun ρ e => ex_assign (e _ _ rfl)) rfl rfl ?_
    refine wl_nil ?_
    refine xw_next K8 ?_
    refine cw_ret ?_
    refine xw_past (by intro h; cases h) ?_
    refine xw_ret (v := .tuple #[.slice none 0 0, .int .i64 1]) (fun T hT => res2 rfl T _ (hT 4 _ rfl) (hT 5 _ rfl)) ?_
    have hcan : canB ts 1 at_ = false := by unfold canB; rw [chk_no c7]; rfl
    rw [mov_no hcan]
    have O9 := O6.nilrow 38 3
    exact ⟨none, 0, rfl, O9.re [0] rfl⟩
  · skip
    have hok : okT ts = true := chk_ok (by omega)
    have hV := okT_val hok
    have hpos := hV.pos
    have hle := hV.le
    obtain ⟨b, o, c', hv, hDb⟩ := hN.form hpos
    injection hv with hA _ hc
    subst hA hc
    refine wl_val (v := .bool false) (fun ρ e => ex_cmp (u := (chkV ts)) (v := 0) (e _ _ rfl) (e _ _ rfl) (neq0 (by omega))) rfl rfl ?_
    refine wl_val (v := .bool false) (fun ρ e => ex_move (e _ _ rfl)) rfl rfl ?_
    refine wl_val (v := .slice (some ⟨b, o, none⟩) ts.length c0) (fun ρ e => ex_move (e _ _ rfl)) rfl rfl ?_
    refine wl_val (v := .int .i64 at_) (fun ρ e => ex_move (e _ _ rfl)) rfl rfl ?_
    by_cases c10 : (innerB ts at_) = true
    · skip
      obtain ⟨k, a, b2, rfl, hx⟩ := inner_get hV c10
      have hkl := hV.in_ hx
      refine wl_call (args := [.slice (some ⟨b, o, none⟩) ts.length c0, .int .i64 (k : Int)]) in_64 rfl rfl rfl ?_
      refine (rinnerb_ (hN.move (fun k hk => (O6.old).block k (hD k hk))) (fun k hk => Nat.lt_of_lt_of_le (hD k hk) (O6.old).size) (show innerB ts (k : Int) = true from c10)).mono ?_
      rintro _ w11 ⟨rfl, hb12⟩
      have O13 : Own Z0 W w11 [] := O6.below hb12
      refine ⟨_, rfl, ?_⟩
      refine wl_val (v := .bool false) (fun ρ e => ex_lnot (b := true) (e _ _ rfl)) rfl rfl ?_
      refine wl_val (v := .bool false) (fun ρ e => ex_pick0 (e _ _ rfl) (e _ _ rfl)) rfl rfl ?_
      refine wl_val (v := .bool false) (fun ρ e => ex_move (e _ _ rfl)) rfl rfl ?_
      refine wl_val (v := .slice (some ⟨b, o, none⟩) ts.length c0) (fun ρ e => ex_move (e _ _ rfl)) rfl rfl ?_
      refine wl_val (v := .slice (some ⟨b, o, none⟩) ts.length c0) (fun ρ e => ex_move (e _ _ rfl)) rfl rfl ?_
      refine wl_val (v := .int .i64 (k : Int)) (fun ρ e => ex_move (e _ _ rfl)) rfl rfl ?_
      refine wl_val (v := .pointer (some ⟨b, o + k * 3, none⟩)) (fun ρ e => ex_idx (q := o + k * 3) (i := k) el23 (e _ _ rfl) (e _ _ rfl) (by omega) (by omega)) rfl rfl ?_
      refine wl_val (v := .pointer (some ⟨b, o + k * 3, none⟩)) (fun ρ e => ex_field (q := o + k * 3) fi38_0 (e _ _ rfl) rfl) rfl rfl ?_
      refine wl_val (v := .int .i64 (a : Int)) (fun ρ e => ex_load1 ty3 (e _ _ rfl) (NodesD.c0 (hN.move (fun k hk => (O13.old).block k (hD k hk))) hx)) rfl rfl ?_
      by_cases c14 : (innerB ts (a : Int)) = true
      · skip
        obtain ⟨p, q, hlow⟩ := inner_nat hV c14
        refine wl_call (args := [.slice (some ⟨b, o, none⟩) ts.length c0, .int .i64 (a : Int)]) in_64 rfl rfl rfl ?_
        refine (rinnerb_ (hN.move (fun k hk => (O13.old).block k (hD k hk))) (fun k hk => Nat.lt_of_lt_of_le (hD k hk) (O13.old).size) (show innerB ts (a : Int) = true from c14)).mono ?_
        rintro _ w15 ⟨rfl, hb16⟩
        have O17 : Own Z0 W w15 [] := O13.below hb16
        refine ⟨_, rfl, ?_⟩
        refine wl_val (v := .bool false) (fun ρ e => ex_lnot (b := true) (e _ _ rfl)) rfl rfl ?_
        refine wl_val (v := .bool false) (fun ρ e => ex_pick0 (e _ _ rfl) (e _ _ rfl)) rfl rfl ?_
        refine wl_nil ?_
        refine xw_next K3 ?_
        refine cw_false rfl ?_
        refine cw_skip ?_
        refine xw_next K2 ?_
        refine cw_seq (fun FK18 K18 => ?_)
        refine cw_region ?_
        refine wl_val (v := .slice (some ⟨b, o, none⟩) ts.length c0) (fun ρ e => ex_move (e _ _ rfl)) rfl rfl ?_
        refine wl_val (v := .slice (some ⟨b, o, none⟩) ts.length c0) (fun ρ e => ex_move (e _ _ rfl)) rfl rfl ?_
        refine wl_val (v := .int .i64 ((ts.length : Nat) : Int)) (fun ρ e => ex_len el23 (e _ _ rfl)) rfl rfl ?_
        refine wl_val (v := .int .i64 ((ts.length - 1 : Nat) : Int)) (fun ρ e => ex_arith (k := .i64) (u := ((ts.length : Nat) : Int)) (v := 1) (e _ _ rfl) (e _ _ rfl) (congrArg some ((congrArg _ (show _ = ((ts.length - 1 : Nat) : Int) by omega)).trans (wrap_in (by omega) (by omega))))) rfl rfl ?_
        refine wl_val (v := .int .i64 (k : Int)) (fun ρ e => ex_move (e _ _ rfl)) rfl rfl ?_
        refine wl_call (args := [.slice (some ⟨b, o, none⟩) ts.length c0, .int .i64 ((ts.length - 1 : Nat) : Int), .int .i64 (k : Int), .int .i64 1, .slice none 0 0]) in_65 rfl rfl rfl ?_
        obtain ⟨⟨vs, hAt⟩, hsz⟩ := mvR hV hx hlow
        have O23s := (((Own.start w15).oldro (D := D) (p := (fun w => NodesD D w (.slice (some ⟨b, o, none⟩) ts.length c0) ts)) (nodesE_holds (hN.move (fun k hk => (O17.old).block k (hD k hk))) (fun k hk => Nat.lt_of_lt_of_le (hD k hk) (O17.old).size))).nilrow 38 3)
        refine (rchanged1 hV hle hx hlow ts.length (ts.length - 1) (by omega) (by omega) _ _ _ _ _ _ [] O23s (by omega)).mono ?_
        rintro _ w21 ⟨A19, c20, rfl, h22⟩
        rw [Nat.zero_add, List.nil_append] at h22
        have O23 := O17.join1 (h22.re [0] rfl) trivial
        refine ⟨_, rfl, ?_⟩
        refine wl_val (v := .slice A19 (0 + Tr.size (chT ts 1 k ts.length (ts.length - 1))) c20) (fun ρ e => ex_assign (e _ _ rfl)) rfl rfl ?_
        refine wl_val (v := .int .i64 0) (fun ρ e => ex_assign (e _ _ rfl)) rfl rfl ?_
        refine wl_nil ?_
        refine xw_next K18 ?_
        refine cw_ret ?_
        refine xw_ret (v := .tuple #[.slice A19 (0 + Tr.size (chT ts 1 k ts.length (ts.length - 1))) c20, .int .i64 0]) (fun T hT => res2 rfl T _ (hT 4 _ rfl) (hT 5 _ rfl)) ?_
        have hcan : canB ts 1 (k : Int) = true := by unfold canB; rw [hok, c10, child_at hx]; simpa using c14
        rw [mov_yes hcan]
        simp only [post_len]
        exact ⟨A19, c20, by rw [Nat.zero_add], O23⟩
      · skip
        refine wl_call (args := [.slice (some ⟨b, o, none⟩) ts.length c0, .int .i64 (a : Int)]) in_64 rfl rfl rfl ?_
        refine (rinnerb_ (hN.move (fun k hk => (O13.old).block k (hD k hk))) (fun k hk => Nat.lt_of_lt_of_le (hD k hk) (O13.old).size) (show innerB ts (a : Int) = false from Bool.eq_false_iff.2 c14)).mono ?_
        rintro _ w24 ⟨rfl, hb25⟩
        have O26 : Own Z0 W w24 [] := O13.below hb25
        refine ⟨_, rfl, ?_⟩
        refine wl_val (v := .bool true) (fun ρ e => ex_lnot (b := false) (e _ _ rfl)) rfl rfl ?_
        refine wl_val (v := .bool true) (fun ρ e => ex_pick0 (e _ _ rfl) (e _ _ rfl)) rfl rfl ?_
        refine wl_nil ?_
        refine xw_next K3 ?_
        refine cw_true rfl ?_
        refine cw_seq (fun FK27 K27 => ?_)
        refine cw_region ?_
        refine wl_val (v := .slice none 0 0) (fun ρ e => ex_assign (e _ _ rfl)) rfl rfl ?_
        refine wl_val (v := .int .i64 1) (fun ρ e => ex_assign (e _ _ rfl)) rfl rfl ?_
        refine wl_nil ?_
        refine xw_next K27 ?_
        refine cw_ret ?_
        refine xw_past (by intro h; cases h) ?_
        refine xw_ret (v := .tuple #[.slice none 0 0, .int .i64 1]) (fun T hT => res2 rfl T _ (hT 4 _ rfl) (hT 5 _ rfl)) ?_
        have hcan : canB ts 1 (k : Int) = false := by unfold canB; rw [child_at hx, Bool.and_eq_false_iff]; right; simpa using c14
        rw [mov_no hcan]
        have O28 := O26.nilrow 38 3
        exact ⟨none, 0, rfl, O28.re [0] rfl⟩
    · skip
      refine wl_call (args := [.slice (some ⟨b, o, none⟩) ts.length c0, .int .i64 at_]) in_64 rfl rfl rfl ?_
      refine (rinnerb_ (hN.move (fun k hk => (O6.old).block k (hD k hk))) (fun k hk => Nat.lt_of_lt_of_le (hD k hk) (O6.old).size) (show innerB ts at_ = false from Bool.eq_false_iff.2 c10)).mono ?_
      rintro _ w29 ⟨rfl, hb30⟩
      have O31 : Own Z0 W w29 [] := O6.below hb30
      refine ⟨_, rfl, ?_⟩
      refine wl_val (v := .bool true) (fun ρ e => ex_lnot (b := false) (e _ _ rfl)) rfl rfl ?_
      refine wl_val (v := .bool true) (fun ρ e => ex_pick0 (e _ _ rfl) (e _ _ rfl)) rfl rfl ?_
      refine wl_val (v := .bool true) (fun ρ e => ex_move (e _ _ rfl)) rfl rfl ?_
      refine wl_skip rfl rfl ?_
      refine wl_skip rfl rfl ?_
      refine wl_skip rfl rfl ?_
      refine wl_skip rfl rfl ?_
      refine wl_skip rfl rfl ?_
      refine wl_skip rfl rfl ?_
      refine wl_skip rfl rfl ?_
      refine wl_skip rfl rfl ?_
      refine wl_val (v := .bool true) (fun ρ e => ex_pick1 (e _ _ rfl) (e _ _ rfl)) rfl rfl ?_
      refine wl_nil ?_
      refine xw_next K3 ?_
      refine cw_true rfl ?_
      refine cw_seq (fun FK32 K32 => ?_)
      refine cw_region ?_
      refine wl_val (v := .slice none 0 0) (fun ρ e => ex_assign (e _ _ rfl)) rfl rfl ?_
      refine wl_val (v := .int .i64 1) (fun ρ e => ex_assign (e _ _ rfl)) rfl rfl ?_
      refine wl_nil ?_
      refine xw_next K32 ?_
      refine cw_ret ?_
      refine xw_past (by intro h; cases h) ?_
      refine xw_ret (v := .tuple #[.slice none 0 0, .int .i64 1]) (fun T hT => res2 rfl T _ (hT 4 _ rfl) (hT 5 _ rfl)) ?_
      have hcan : canB ts 1 at_ = false := by unfold canB; rw [Bool.eq_false_iff.2 c10]; simp
      rw [mov_no hcan]
      have O33 := O31.nilrow 38 3
      exact ⟨none, 0, rfl, O33.re [0] rfl⟩
theorem rrotl_ {W : World} {D : Nat → Prop} {V : Value} {ts : List VN} (hN : NodesD D W V ts) (hD : ∀ k, D k → k < W.heap.size) (hsz : ts.length ≤ 1000000) (at_ : Int) :
    Calls Tryd.prog 36 #[V, .int .i64 at_] W fun e w' => ∃ A' c', e = .returned (.tuple #[.slice A' (movOf ts 2 at_).1.length c', .int .i64 (movOf ts 2 at_).2]) ∧ Own Z0 W w' [.row (.slice A' (movOf ts 2 at_).1.length c') 38 3 (movOf ts 2 at_).1.length (ncells (movOf ts 2 at_).1)] := by
  obtain ⟨A, c0, rfl⟩ := hN.slice
  have O0 : Own Z0 W W [] := Own.start W
  refine sx_enter (args := [.slice A ts.length c0, .int .i64 at_]) Tryd.func36 rfl rfl (by simp) ?_
  refine cw_seq (fun FK1 K1 => ?_)
  refine cw_region ?_
  refine wl_val (v := .slice none 0 0) (fun ρ e => ex_assign (e _ _ rfl)) rfl rfl ?_
  refine wl_val (v := .int .i64 0) (fun ρ e => ex_assign (e _ _ rfl)) rfl rfl ?_
  refine wl_nil ?_
  refine xw_next K1 ?_
  refine cw_seq (fun FK2 K2 => ?_)
  refine cw_seq (fun FK3 K3 => ?_)
  refine cw_region ?_
  refine wl_val (v := .slice A ts.length c0) (fun ρ e => ex_move (e _ _ rfl)) rfl rfl ?_
  refine wl_call (args := [.slice A ts.length c0]) in_41 rfl rfl rfl ?_
  refine (rcheck_ (hN.move (fun k hk => (O0.old).block k (hD k hk))) (fun k hk => Nat.lt_of_lt_of_le (hD k hk) (O0.old).size) (by omega)).mono ?_
  rintro _ w4 ⟨rfl, hb5⟩
  have O6 : Own Z0 W w4 [] := O0.below hb5
  refine ⟨_, rfl, ?_⟩
  by_cases c7 : (chkV ts) ≠ 0
  · skip
    refine wl_val (v := .bool true) (fun ρ e => ex_cmp (u := (chkV ts)) (v := 0) (e _ _ rfl) (e _ _ rfl) (neq1 (by omega))) rfl rfl ?_
    refine wl_val (v := .bool true) (fun ρ e => ex_move (e _ _ rfl)) rfl rfl ?_
    refine wl_skip rfl rfl ?_
    refine wl_skip rfl rfl ?_
    refine wl_skip rfl rfl ?_
    refine wl_skip rfl rfl ?_
    refine wl_val (v := .bool true) (fun ρ e => ex_pick1 (e _ _ rfl) (e _ _ rfl)) rfl rfl ?_
    refine wl_val (v := .bool true) (fun ρ e => ex_move (e _ _ rfl)) rfl rfl ?_
    refine wl_skip rfl rfl ?_
    refine wl_skip rfl rfl ?_
    refine wl_skip rfl rfl ?_
    refine wl_skip rfl rfl ?_
    refine wl_skip rfl rfl ?_
    refine wl_skip rfl rfl ?_
    refine wl_skip rfl rfl ?_
    refine wl_skip rfl rfl ?_
    refine wl_val (v := .bool true) (fun ρ e => ex_pick1 (e _ _ rfl) (e _ _ rfl)) rfl rfl ?_
    refine wl_nil ?_
    refine xw_next K3 ?_
    refine cw_true rfl ?_
    refine cw_seq (fun FK8 K8 => ?_)
    refine cw_region ?_
    refine wl_val (v := .slice none 0 0) (fun ρ e => ex_assign (e _ _ rfl)) rfl rfl ?_
    refine wl_val (v := .int .i64 1) (fun ρ e => ex_assign (e _ _ rfl)) rfl rfl ?_
    refine wl_nil ?_
    refine xw_next K8 ?_
    refine cw_ret ?_
    refine xw_past (by intro h; cases h) ?_
    refine xw_ret (v := .tuple #[.slice none 0 0, .int .i64 1]) (fun T hT => res2 rfl T _ (hT 4 _ rfl) (hT 5 _ rfl)) ?_
    have hcan : canB ts 2 at_ = false := by unfold canB; rw [chk_no c7]; rfl
    rw [mov_no hcan]
    have O9 := O6.nilrow 38 3
    exact ⟨none, 0, rfl, O9.re [0] rfl⟩
  · skip
    have hok : okT ts = true := chk_ok (by omega)
    have hV := okT_val hok
    have hpos := hV.pos
    have hle := hV.le
    obtain ⟨b, o, c', hv, hDb⟩ := hN.form hpos
    injection hv with hA _ hc
    subst hA hc
    refine wl_val (v := .bool false) (fun ρ e => ex_cmp (u := (chkV ts)) (v := 0) (e _ _ rfl) (e _ _ rfl) (neq0 (by omega))) rfl rfl ?_
    refine wl_val (v := .bool false) (fun ρ e => ex_move (e _ _ rfl)) rfl rfl ?_
    refine wl_val (v := .slice (some ⟨b, o, none⟩) ts.length c0) (fun ρ e => ex_move (e _ _ rfl)) rfl rfl ?_
    refine wl_val (v := .int .i64 at_) (fun ρ e => ex_move (e _ _ rfl)) rfl rfl ?_
    by_cases c10 : (innerB ts at_) = true
    · skip
      obtain ⟨k, a, b2, rfl, hx⟩ := inner_get hV c10
      have hkl := hV.in_ hx
      refine wl_call (args := [.slice (some ⟨b, o, none⟩) ts.length c0, .int .i64 (k : Int)]) in_64 rfl rfl rfl ?_
      refine (rinnerb_ (hN.move (fun k hk => (O6.old).block k (hD k hk))) (fun k hk => Nat.lt_of_lt_of_le (hD k hk) (O6.old).size) (show innerB ts (k : Int) = true from c10)).mono ?_
      rintro _ w11 ⟨rfl, hb12⟩
      have O13 : Own Z0 W w11 [] := O6.below hb12
      refine ⟨_, rfl, ?_⟩
      refine wl_val (v := .bool false) (fun ρ e => ex_lnot (b := true) (e _ _ rfl)) rfl rfl ?_
      refine wl_val (v := .bool false) (fun ρ e => ex_pick0 (e _ _ rfl) (e _ _ rfl)) rfl rfl ?_
      refine wl_val (v := .bool false) (fun ρ e => ex_move (e _ _ rfl)) rfl rfl ?_
      refine wl_val (v := .slice (some ⟨b, o, none⟩) ts.length c0) (fun ρ e => ex_move (e _ _ rfl)) rfl rfl ?_
      refine wl_val (v := .slice (some ⟨b, o, none⟩) ts.length c0) (fun ρ e => ex_move (e _ _ rfl)) rfl rfl ?_
      refine wl_val (v := .int .i64 (k : Int)) (fun ρ e => ex_move (e _ _ rfl)) rfl rfl ?_
      refine wl_val (v := .pointer (some ⟨b, o + k * 3, none⟩)) (fun ρ e => ex_idx (q := o + k * 3) (i := k) el23 (e _ _ rfl) (e _ _ rfl) (by omega) (by omega)) rfl rfl ?_
      refine wl_val (v := .pointer (some ⟨b, o + k * 3 + 1, none⟩)) (fun ρ e => ex_field (q := o + k * 3 + 1) fi38_1 (e _ _ rfl) rfl) rfl rfl ?_
      refine wl_val (v := .int .i64 (b2 : Int)) (fun ρ e => ex_load1 ty3 (e _ _ rfl) (NodesD.c1 (hN.move (fun k hk => (O13.old).block k (hD k hk))) hx)) rfl rfl ?_
      by_cases c14 : (innerB ts (b2 : Int)) = true
      · skip
        obtain ⟨p, q, hlow⟩ := inner_nat hV c14
        refine wl_call (args := [.slice (some ⟨b, o, none⟩) ts.length c0, .int .i64 (b2 : Int)]) in_64 rfl rfl rfl ?_
        refine (rinnerb_ (hN.move (fun k hk => (O13.old).block k (hD k hk))) (fun k hk => Nat.lt_of_lt_of_le (hD k hk) (O13.old).size) (show innerB ts (b2 : Int) = true from c14)).mono ?_
        rintro _ w15 ⟨rfl, hb16⟩
        have O17 : Own Z0 W w15 [] := O13.below hb16
        refine ⟨_, rfl, ?_⟩
        refine wl_val (v := .bool false) (fun ρ e => ex_lnot (b := true) (e _ _ rfl)) rfl rfl ?_
        refine wl_val (v := .bool false) (fun ρ e => ex_pick0 (e _ _ rfl) (e _ _ rfl)) rfl rfl ?_
        refine wl_nil ?_
        refine xw_next K3 ?_
        refine cw_false rfl ?_
        refine cw_skip ?_
        refine xw_next K2 ?_
        refine cw_seq (fun FK18 K18 => ?_)
        refine cw_region ?_
        refine wl_val (v := .slice (some ⟨b, o, none⟩) ts.length c0) (fun ρ e => ex_move (e _ _ rfl)) rfl rfl ?_
        refine wl_val (v := .slice (some ⟨b, o, none⟩) ts.length c0) (fun ρ e => ex_move (e _ _ rfl)) rfl rfl ?_
        refine wl_val (v := .int .i64 ((ts.length : Nat) : Int)) (fun ρ e => ex_len el23 (e _ _ rfl)) rfl rfl ?_
        refine wl_val (v := .int .i64 ((ts.length - 1 : Nat) : Int)) (fun ρ e => ex_arith (k := .i64) (u := ((ts.length : Nat) : Int)) (v := 1) (e _ _ rfl) (e _ _ rfl) (congrArg some ((congrArg _ (show _ = ((ts.length - 1 : Nat) : Int) by omega)).trans (wrap_in (by omega) (by omega))))) rfl rfl ?_
        refine wl_val (v := .int .i64 (k : Int)) (fun ρ e => ex_move (e _ _ rfl)) rfl rfl ?_
        refine wl_call (args := [.slice (some ⟨b, o, none⟩) ts.length c0, .int .i64 ((ts.length - 1 : Nat) : Int), .int .i64 (k : Int), .int .i64 2, .slice none 0 0]) in_65 rfl rfl rfl ?_
        obtain ⟨⟨vs, hAt⟩, hsz⟩ := mvL hV hx hlow
        have O23s := (((Own.start w15).oldro (D := D) (p := (fun w => NodesD D w (.slice (some ⟨b, o, none⟩) ts.length c0) ts)) (nodesE_holds (hN.move (fun k hk => (O17.old).block k (hD k hk))) (fun k hk => Nat.lt_of_lt_of_le (hD k hk) (O17.old).size))).nilrow 38 3)
        refine (rchanged2 hV hle hx hlow ts.length (ts.length - 1) (by omega) (by omega) _ _ _ _ _ _ [] O23s (by omega)).mono ?_
        rintro _ w21 ⟨A19, c20, rfl, h22⟩
        rw [Nat.zero_add, List.nil_append] at h22
        have O23 := O17.join1 (h22.re [0] rfl) trivial
        refine ⟨_, rfl, ?_⟩
        refine wl_val (v := .slice A19 (0 + Tr.size (chT ts 2 k ts.length (ts.length - 1))) c20) (fun ρ e => ex_assign (e _ _ rfl)) rfl rfl ?_
        refine wl_val (v := .int .i64 0) (fun ρ e => ex_assign (e _ _ rfl)) rfl rfl ?_
        refine wl_nil ?_
        refine xw_next K18 ?_
        refine cw_ret ?_
        refine xw_ret (v := .tuple #[.slice A19 (0 + Tr.size (chT ts 2 k ts.length (ts.length - 1))) c20, .int .i64 0]) (fun T hT => res2 rfl T _ (hT 4 _ rfl) (hT 5 _ rfl)) ?_
        have hcan : canB ts 2 (k : Int) = true := by unfold canB; rw [hok, c10, child_at hx]; simpa using c14
        rw [mov_yes hcan]
        simp only [post_len]
        exact ⟨A19, c20, by rw [Nat.zero_add], O23⟩
      · skip
        refine wl_call (args := [.slice (some ⟨b, o, none⟩) ts.length c0, .int .i64 (b2 : Int)]) in_64 rfl rfl rfl ?_
        refine (rinnerb_ (hN.move (fun k hk => (O13.old).block k (hD k hk))) (fun k hk => Nat.lt_of_lt_of_le (hD k hk) (O13.old).size) (show innerB ts (b2 : Int) = false from Bool.eq_false_iff.2 c14)).mono ?_
        rintro _ w24 ⟨rfl, hb25⟩
        have O26 : Own Z0 W w24 [] := O13.below hb25
        refine ⟨_, rfl, ?_⟩
        refine wl_val (v := .bool true) (fun ρ e => ex_lnot (b := false) (e _ _ rfl)) rfl rfl ?_
        refine wl_val (v := .bool true) (fun ρ e => ex_pick0 (e _ _ rfl) (e _ _ rfl)) rfl rfl ?_
        refine wl_nil ?_
        refine xw_next K3 ?_
        refine cw_true rfl ?_
        refine cw_seq (fun FK27 K27 => ?_)
        refine cw_region ?_
        refine wl_val (v := .slice none 0 0) (fun ρ e => ex_assign (e _ _ rfl)) rfl rfl ?_
        refine wl_val (v := .int .i64 1) (fun ρ e => ex_assign (e _ _ rfl)) rfl rfl ?_
        refine wl_nil ?_
        refine xw_next K27 ?_
        refine cw_ret ?_
        refine xw_past (by intro h; cases h) ?_
        refine xw_ret (v := .tuple #[.slice none 0 0, .int .i64 1]) (fun T hT => res2 rfl T _ (hT 4 _ rfl) (hT 5 _ rfl)) ?_
        have hcan : canB ts 2 (k : Int) = false := by unfold canB; rw [child_at hx, Bool.and_eq_false_iff]; right; simpa using c14
        rw [mov_no hcan]
        have O28 := O26.nilrow 38 3
        exact ⟨none, 0, rfl, O28.re [0] rfl⟩
    · skip
      refine wl_call (args := [.slice (some ⟨b, o, none⟩) ts.length c0, .int .i64 at_]) in_64 rfl rfl rfl ?_
      refine (rinnerb_ (hN.move (fun k hk => (O6.old).block k (hD k hk))) (fun k hk => Nat.lt_of_lt_of_le (hD k hk) (O6.old).size) (show innerB ts at_ = false from Bool.eq_false_iff.2 c10)).mono ?_
      rintro _ w29 ⟨rfl, hb30⟩
      have O31 : Own Z0 W w29 [] := O6.below hb30
      refine ⟨_, rfl, ?_⟩
      refine wl_val (v := .bool true) (fun ρ e => ex_lnot (b := false) (e _ _ rfl)) rfl rfl ?_
      refine wl_val (v := .bool true) (fun ρ e => ex_pick0 (e _ _ rfl) (e _ _ rfl)) rfl rfl ?_
      refine wl_val (v := .bool true) (fun ρ e => ex_move (e _ _ rfl)) rfl rfl ?_
      refine wl_skip rfl rfl ?_
      refine wl_skip rfl rfl ?_
      refine wl_skip rfl rfl ?_
      refine wl_skip rfl rfl ?_
      refine wl_skip rfl rfl ?_
      refine wl_skip rfl rfl ?_
      refine wl_skip rfl rfl ?_
      refine wl_skip rfl rfl ?_
      refine wl_val (v := .bool true) (fun ρ e => ex_pick1 (e _ _ rfl) (e _ _ rfl)) rfl rfl ?_
      refine wl_nil ?_
      refine xw_next K3 ?_
      refine cw_true rfl ?_
      refine cw_seq (fun FK32 K32 => ?_)
      refine cw_region ?_
      refine wl_val (v := .slice none 0 0) (fun ρ e => ex_assign (e _ _ rfl)) rfl rfl ?_
      refine wl_val (v := .int .i64 1) (fun ρ e => ex_assign (e _ _ rfl)) rfl rfl ?_
      refine wl_nil ?_
      refine xw_next K32 ?_
      refine cw_ret ?_
      refine xw_past (by intro h; cases h) ?_
      refine xw_ret (v := .tuple #[.slice none 0 0, .int .i64 1]) (fun T hT => res2 rfl T _ (hT 4 _ rfl) (hT 5 _ rfl)) ?_
      have hcan : canB ts 2 at_ = false := by unfold canB; rw [Bool.eq_false_iff.2 c10]; simp
      rw [mov_no hcan]
      have O33 := O31.nilrow 38 3
      exact ⟨none, 0, rfl, O33.re [0] rfl⟩
theorem rswap_ {W : World} {D : Nat → Prop} {V : Value} {ts : List VN} (hN : NodesD D W V ts) (hD : ∀ k, D k → k < W.heap.size) (hsz : ts.length ≤ 1000000) (at_ : Int) :
    Calls Tryd.prog 37 #[V, .int .i64 at_] W fun e w' => ∃ A' c', e = .returned (.tuple #[.slice A' (movOf ts 3 at_).1.length c', .int .i64 (movOf ts 3 at_).2]) ∧ Own Z0 W w' [.row (.slice A' (movOf ts 3 at_).1.length c') 38 3 (movOf ts 3 at_).1.length (ncells (movOf ts 3 at_).1)] := by
  obtain ⟨A, c0, rfl⟩ := hN.slice
  have O0 : Own Z0 W W [] := Own.start W
  refine sx_enter (args := [.slice A ts.length c0, .int .i64 at_]) Tryd.func37 rfl rfl (by simp) ?_
  refine cw_seq (fun FK1 K1 => ?_)
  refine cw_region ?_
  refine wl_val (v := .slice none 0 0) (fun ρ e => ex_assign (e _ _ rfl)) rfl rfl ?_
  refine wl_val (v := .int .i64 0) (fun ρ e => ex_assign (e _ _ rfl)) rfl rfl ?_
  refine wl_nil ?_
  refine xw_next K1 ?_
  refine cw_seq (fun FK2 K2 => ?_)
  refine cw_seq (fun FK3 K3 => ?_)
  refine cw_region ?_
  refine wl_val (v := .slice A ts.length c0) (fun ρ e => ex_move (e _ _ rfl)) rfl rfl ?_
  refine wl_call (args := [.slice A ts.length c0]) in_41 rfl rfl rfl ?_
  refine (rcheck_ (hN.move (fun k hk => (O0.old).block k (hD k hk))) (fun k hk => Nat.lt_of_lt_of_le (hD k hk) (O0.old).size) (by omega)).mono ?_
  rintro _ w4 ⟨rfl, hb5⟩
  have O6 : Own Z0 W w4 [] := O0.below hb5
  refine ⟨_, rfl, ?_⟩
  by_cases c7 : (chkV ts) ≠ 0
  · skip
    refine wl_val (v := .bool true) (fun ρ e => ex_cmp (u := (chkV ts)) (v := 0) (e _ _ rfl) (e _ _ rfl) (neq1 (by omega))) rfl rfl ?_
    refine wl_val (v := .bool true) (fun ρ e => ex_move (e _ _ rfl)) rfl rfl ?_
    refine wl_skip rfl rfl ?_
    refine wl_skip rfl rfl ?_
    refine wl_skip rfl rfl ?_
    refine wl_skip rfl rfl ?_
    refine wl_val (v := .bool true) (fun ρ e => ex_pick1 (e _ _ rfl) (e _ _ rfl)) rfl rfl ?_
    refine wl_nil ?_
    refine xw_next K3 ?_
    refine cw_true rfl ?_
    refine cw_seq (fun FK8 K8 => ?_)
    refine cw_region ?_
    refine wl_val (v := .slice none 0 0) (fun ρ e => ex_assign (e _ _ rfl)) rfl rfl ?_
    refine wl_val (v := .int .i64 1) (fun ρ e => ex_assign (e _ _ rfl)) rfl rfl ?_
    refine wl_nil ?_
    refine xw_next K8 ?_
    refine cw_ret ?_
    refine xw_past (by intro h; cases h) ?_
    refine xw_ret (v := .tuple #[.slice none 0 0, .int .i64 1]) (fun T hT => res2 rfl T _ (hT 4 _ rfl) (hT 5 _ rfl)) ?_
    have hcan : canB ts 3 at_ = false := by unfold canB; rw [chk_no c7]; rfl
    rw [mov_no hcan]
    have O9 := O6.nilrow 38 3
    exact ⟨none, 0, rfl, O9.re [0] rfl⟩
  · skip
    have hok : okT ts = true := chk_ok (by omega)
    have hV := okT_val hok
    have hpos := hV.pos
    have hle := hV.le
    obtain ⟨b, o, c', hv, hDb⟩ := hN.form hpos
    injection hv with hA _ hc
    subst hA hc
    refine wl_val (v := .bool false) (fun ρ e => ex_cmp (u := (chkV ts)) (v := 0) (e _ _ rfl) (e _ _ rfl) (neq0 (by omega))) rfl rfl ?_
    refine wl_val (v := .bool false) (fun ρ e => ex_move (e _ _ rfl)) rfl rfl ?_
    refine wl_val (v := .slice (some ⟨b, o, none⟩) ts.length c0) (fun ρ e => ex_move (e _ _ rfl)) rfl rfl ?_
    refine wl_val (v := .int .i64 at_) (fun ρ e => ex_move (e _ _ rfl)) rfl rfl ?_
    by_cases c10 : (innerB ts at_) = true
    · skip
      obtain ⟨k, a, b2, rfl, hx⟩ := inner_get hV c10
      have hkl := hV.in_ hx
      refine wl_call (args := [.slice (some ⟨b, o, none⟩) ts.length c0, .int .i64 (k : Int)]) in_64 rfl rfl rfl ?_
      refine (rinnerb_ (hN.move (fun k hk => (O6.old).block k (hD k hk))) (fun k hk => Nat.lt_of_lt_of_le (hD k hk) (O6.old).size) (show innerB ts (k : Int) = true from c10)).mono ?_
      rintro _ w11 ⟨rfl, hb12⟩
      have O13 : Own Z0 W w11 [] := O6.below hb12
      refine ⟨_, rfl, ?_⟩
      refine wl_val (v := .bool false) (fun ρ e => ex_lnot (b := true) (e _ _ rfl)) rfl rfl ?_
      refine wl_val (v := .bool false) (fun ρ e => ex_pick0 (e _ _ rfl) (e _ _ rfl)) rfl rfl ?_
      refine wl_nil ?_
      refine xw_next K3 ?_
      refine cw_false rfl ?_
      refine cw_skip ?_
      refine xw_next K2 ?_
      refine cw_seq (fun FK14 K14 => ?_)
      refine cw_region ?_
      refine wl_val (v := .slice (some ⟨b, o, none⟩) ts.length c0) (fun ρ e => ex_move (e _ _ rfl)) rfl rfl ?_
      refine wl_val (v := .slice (some ⟨b, o, none⟩) ts.length c0) (fun ρ e => ex_move (e _ _ rfl)) rfl rfl ?_
      refine wl_val (v := .int .i64 ((ts.length : Nat) : Int)) (fun ρ e => ex_len el23 (e _ _ rfl)) rfl rfl ?_
      refine wl_val (v := .int .i64 ((ts.length - 1 : Nat) : Int)) (fun ρ e => ex_arith (k := .i64) (u := ((ts.length : Nat) : Int)) (v := 1) (e _ _ rfl) (e _ _ rfl) (congrArg some ((congrArg _ (show _ = ((ts.length - 1 : Nat) : Int) by omega)).trans (wrap_in (by omega) (by omega))))) rfl rfl ?_
      refine wl_val (v := .int .i64 (k : Int)) (fun ρ e => ex_move (e _ _ rfl)) rfl rfl ?_
      refine wl_call (args := [.slice (some ⟨b, o, none⟩) ts.length c0, .int .i64 ((ts.length - 1 : Nat) : Int), .int .i64 (k : Int), .int .i64 3, .slice none 0 0]) in_65 rfl rfl rfl ?_
      obtain ⟨⟨vs, hAt⟩, hsz⟩ := mvS hV hx
      have O19s := (((Own.start w11).oldro (D := D) (p := (fun w => NodesD D w (.slice (some ⟨b, o, none⟩) ts.length c0) ts)) (nodesE_holds (hN.move (fun k hk => (O13.old).block k (hD k hk))) (fun k hk => Nat.lt_of_lt_of_le (hD k hk) (O13.old).size))).nilrow 38 3)
      refine (rchanged3 hV hle hx ts.length (ts.length - 1) (by omega) (by omega) _ _ _ _ _ _ [] O19s (by omega)).mono ?_
      rintro _ w17 ⟨A15, c16, rfl, h18⟩
      rw [Nat.zero_add, List.nil_append] at h18
      have O19 := O13.join1 (h18.re [0] rfl) trivial
      refine ⟨_, rfl, ?_⟩
      refine wl_val (v := .slice A15 (0 + Tr.size (chT ts 3 k ts.length (ts.length - 1))) c16) (fun ρ e => ex_assign (e _ _ rfl)) rfl rfl ?_
      refine wl_val (v := .int .i64 0) (fun ρ e => ex_assign (e _ _ rfl)) rfl rfl ?_
      refine wl_nil ?_
      refine xw_next K14 ?_
      refine cw_ret ?_
      refine xw_ret (v := .tuple #[.slice A15 (0 + Tr.size (chT ts 3 k ts.length (ts.length - 1))) c16, .int .i64 0]) (fun T hT => res2 rfl T _ (hT 4 _ rfl) (hT 5 _ rfl)) ?_
      have hcan : canB ts 3 (k : Int) = true := by unfold canB; rw [hok, c10]; rfl
      rw [mov_yes hcan]
      simp only [post_len]
      exact ⟨A15, c16, by rw [Nat.zero_add], O19⟩
    · skip
      refine wl_call (args := [.slice (some ⟨b, o, none⟩) ts.length c0, .int .i64 at_]) in_64 rfl rfl rfl ?_
      refine (rinnerb_ (hN.move (fun k hk => (O6.old).block k (hD k hk))) (fun k hk => Nat.lt_of_lt_of_le (hD k hk) (O6.old).size) (show innerB ts at_ = false from Bool.eq_false_iff.2 c10)).mono ?_
      rintro _ w20 ⟨rfl, hb21⟩
      have O22 : Own Z0 W w20 [] := O6.below hb21
      refine ⟨_, rfl, ?_⟩
      refine wl_val (v := .bool true) (fun ρ e => ex_lnot (b := false) (e _ _ rfl)) rfl rfl ?_
      refine wl_val (v := .bool true) (fun ρ e => ex_pick0 (e _ _ rfl) (e _ _ rfl)) rfl rfl ?_
      refine wl_nil ?_
      refine xw_next K3 ?_
      refine cw_true rfl ?_
      refine cw_seq (fun FK23 K23 => ?_)
      refine cw_region ?_
      refine wl_val (v := .slice none 0 0) (fun ρ e => ex_assign (e _ _ rfl)) rfl rfl ?_
      refine wl_val (v := .int .i64 1) (fun ρ e => ex_assign (e _ _ rfl)) rfl rfl ?_
      refine wl_nil ?_
      refine xw_next K23 ?_
      refine cw_ret ?_
      refine xw_past (by intro h; cases h) ?_
      refine xw_ret (v := .tuple #[.slice none 0 0, .int .i64 1]) (fun T hT => res2 rfl T _ (hT 4 _ rfl) (hT 5 _ rfl)) ?_
      have hcan : canB ts 3 at_ = false := by unfold canB; rw [Bool.eq_false_iff.2 c10]; simp
      rw [mov_no hcan]
      have O24 := O22.nilrow 38 3
      exact ⟨none, 0, rfl, O24.re [0] rfl⟩

end Go.Proofs.YtpeoodkepjhhiaaDoor
