/-
  Lemmas and contracts, joined: Vrparse VlReads.
-/
import Derived.Test.YtpeoodkepjhhiaaDoorPk11
namespace Go.Proofs.YtpeoodkepjhhiaaDoor
open Go Go.RowKit
theorem takeN_len : ∀ (l : List UInt8) (n : Int), (takeN l n).2.length ≤ l.length
  | [], _ => Nat.le_refl _
  | c :: r, n => by
    unfold takeN
    split
    · have := takeN_len r (10 * n + ((c.toNat : Int) - 48))
      simp only [List.length_cons]
      omega
    · exact Nat.le_refl _
theorem isD_lo {c : UInt8} (h : isD c = true) : 48 ≤ c.toNat := by simp only [isD, Bool.and_eq_true, decide_eq_true_eq] at h; exact h.1
theorem isD_up {c : UInt8} (h : isD c = true) : c.toNat ≤ 57 := by simp only [isD, Bool.and_eq_true, decide_eq_true_eq] at h; exact h.2
theorem rparse_none {l : List UInt8} (h : scanR (l.length + 1) l [] [] = none) : rparseOf l = ([], 5) := by unfold rparseOf; rw [h]
theorem rparse_out {l : List UInt8} {t : List VN} (h : scanR (l.length + 1) l [] [] = some t) : rparseOf l = if okT t && decide (printOf t = l) then (t, 0) else ([], 5) := by unfold rparseOf; rw [h]
section
variable {ρ : Operand → Value} {d : Option Tmp} {x y z : Operand} {t T : TypeId} {pos0 : String} {aft : Array Edge} {gd : Option (Nat × Bool)} {w : World}
theorem ex_conv53 {u : Int} (hx : ρ x = .int .u8 u) (h0 : 0 ≤ u) (h1 : u ≤ 255) : (execOp ρ ⟨d, .convert 5 3 x, t, pos0, aft, gd⟩).run Tryd.prog w = .ok (.value (.int .i64 u)) w := by
  have h : IntKind.i64.wrap u = u := wrap_in (by omega) (by omega)
  simp [go_sem, hx, h]
theorem wrap8 {u : Int} (h0 : 0 ≤ u) (h1 : u ≤ 255) : IntKind.u8.wrap u = u := by
  rw [IntKind.wrap_u8]; omega
end
theorem own_cutrow {Z : Bool → Nat → Prop} {w0 W : World} {L : List En} {g T n c k : Nat} {l : List Int} (h : Own Z w0 W (.row (.slice (some ⟨g, 0, none⟩) n c) T 1 n (intCs l) :: L)) (hk : k ≤ n) : Own Z w0 W (.row (.slice (some ⟨g, 0, none⟩) k c) T 1 k (intCs (l.take k)) :: L) := by
  refine h.as (e' := .row (.slice (some ⟨g, 0, none⟩) k c) T 1 k (intCs (l.take k))) ?_ (fun _ hk => hk) (fun _ => trivial)
  obtain ⟨h1, h2⟩ := h.row 0 rfl
  have hl : l.length = n := by simpa [intCs] using h1
  refine ⟨by simp [intCs]; omega, ?_⟩
  rcases h2 with ⟨h3, _⟩ | ⟨g', cap, cur, h3, h4, h5, h6, h7, h8, h9⟩
  · cases h3
  · injection h3 with h3 _ hc
    subst hc
    refine .inr ⟨g', c, cur, by rw [h3], h4, h5, by omega, h7, h8, ?_⟩
    rw [Nat.mul_one] at h9 ⊢
    have e : intCs (l.take k) = (intCs l).take k := by simp [intCs, List.map_take]
    rw [e, ← h9, List.take_take, Nat.min_eq_left hk]
theorem rparse0 {W : World} (s : ByteArray) (hsz : s.size ≤ 100000) :
    Calls Tryd.prog 18 #[.string s] W fun e w' => ∃ A' c', e = .returned (.tuple #[.slice A' (rparseOf s.data.toList).1.length c', .int .i64 (rparseOf s.data.toList).2]) ∧ Own Z0 W w' [.row (.slice A' (rparseOf s.data.toList).1.length c') 38 3 (rparseOf s.data.toList).1.length (ncells (rparseOf s.data.toList).1)] := by
  have hsl : s.data.toList.length = s.size := rfl
  have O0 : Own Z0 W W [] := Own.start W
  refine sx_enter (args := [.string s]) Tryd.func18 rfl rfl (by simp) ?_
  refine cw_seq (fun FK1 K1 => ?_)
  refine cw_region ?_
  refine wl_val (v := .slice none 0 0) (fun ρ e => ex_assign (e _ _ rfl)) rfl rfl ?_
  refine wl_val (v := .int .i64 0) (fun ρ e => ex_assign (e _ _ rfl)) rfl rfl ?_
  refine wl_nil ?_
  refine xw_next K1 ?_
  refine cw_seq (fun FK2 K2 => ?_)
  refine cw_region ?_
  refine wl_val (v := .slice none 0 0) (fun ρ e => ex_assign (e _ _ rfl)) rfl rfl ?_
  refine wl_nil ?_
  refine xw_next K2 ?_
  refine cw_seq (fun FK3 K3 => ?_)
  refine cw_region ?_
  refine wl_val (v := .slice none 0 0) (fun ρ e => ex_assign (e _ _ rfl)) rfl rfl ?_
  refine wl_nil ?_
  refine xw_next K3 ?_
  refine cw_seq (fun FK4 K4 => ?_)
  refine cw_seq (fun FK5 K5 => ?_)
  refine cw_region ?_
  refine wl_val (v := .int .i64 0) (fun ρ e => ex_assign (e _ _ rfl)) rfl rfl ?_
  refine wl_nil ?_
  refine xw_next K5 ?_
  refine cw_block ?_
  have O6 : Own Z0 W W [.row (.slice none 0 0) 3 1 0 (intCs [])] := O0.nilrow 3 1
  have O7 : Own Z0 W W [.row (.slice none 0 0) 38 3 0 (ncells []), .row (.slice none 0 0) 3 1 0 (intCs [])] := O6.nilrow 38 3
  refine cw_loop (ι := Nat × Nat × Option Addr × Nat × Nat × List VN × Option Addr × Nat × Nat × List Int) (fun q => [(0, .string s), (4, .slice q.2.2.1 q.2.2.2.2.1 q.2.2.2.1), (5, .slice q.2.2.2.2.2.2.1 q.2.2.2.2.2.2.2.2.1 q.2.2.2.2.2.2.2.1), (6, .int .i64 (q.1 : Int))]) (fun q X => (q.1 ≤ s.size) ∧ (s.size < q.1 + q.2.1) ∧ (scanR (s.data.toList.length + 1) s.data.toList [] [] = scanR q.2.1 (s.data.toList.drop q.1) q.2.2.2.2.2.1 q.2.2.2.2.2.2.2.2.2) ∧ (q.2.2.2.2.1 = q.2.2.2.2.2.1.length) ∧ (q.2.2.2.2.1 ≤ q.1) ∧ (q.2.2.2.2.2.2.2.2.1 = q.2.2.2.2.2.2.2.2.2.length) ∧ (q.2.2.2.2.2.2.2.2.1 ≤ q.1) ∧ Own Z0 W X [.row (.slice q.2.2.1 q.2.2.2.2.1 q.2.2.2.1) 38 3 q.2.2.2.2.1 (ncells q.2.2.2.2.2.1), .row (.slice q.2.2.2.2.2.2.1 q.2.2.2.2.2.2.2.2.1 q.2.2.2.2.2.2.2.1) 3 1 q.2.2.2.2.2.2.2.2.1 (intCs q.2.2.2.2.2.2.2.2.2)]) (fun q => s.size - q.1) (0, (s.data.toList.length + 1), none, 0, 0, [], none, 0, 0, []) ⟨Nat.zero_le _, (by show s.size < 0 + (s.data.toList.length + 1); rw [hsl]; omega), rfl, rfl, Nat.le_refl 0, rfl, Nat.le_refl 0, O7⟩ ⟨rfl, rfl, rfl, rfl, trivial⟩ (fun q w8 hJ F9 K10 => ?_)
  obtain ⟨i, f, At, ct, nt, t, Ao, co, no, o⟩ := q
  obtain ⟨hi0, hff, hsc, hnt, hnti, hno, hnoi, O11⟩ := hJ
  dsimp only at hi0 hff hsc hnt hnti hno hnoi O11 ⊢
  by_cases hi : i < s.size
  · obtain ⟨f, rfl⟩ : ∃ m, f = m + 1 := ⟨f - 1, by omega⟩
    obtain ⟨c, hc⟩ : ∃ c, s.data.toList[i]? = some c := ⟨_, List.getElem?_eq_getElem (show i < s.data.toList.length by rw [hsl]; exact hi)⟩
    have hdr : s.data.toList.drop i = c :: s.data.toList.drop (i + 1) := drop_get hc
    rw [hdr] at hsc
    have hcb := c.toNat_lt
    refine cw_seq (fun FK12 K12 => ?_)
    refine cw_seq (fun FK13 K13 => ?_)
    refine cw_region ?_
    refine wl_val (v := .int .i64 (i : Int)) (fun ρ e => ex_move (e _ _ rfl)) rfl rfl ?_
    refine wl_val (v := .string s) (fun ρ e => ex_move (e _ _ rfl)) rfl rfl ?_
    refine wl_val (v := .int .i64 ((s.size : Nat) : Int)) (fun ρ e => ex_lenstr (e _ _ rfl)) rfl rfl ?_
    refine wl_val (v := .bool true) (fun ρ e => ex_cmp (u := (i : Int)) (v := ((s.size : Nat) : Int)) (e _ _ rfl) (e _ _ rfl) (lss1 (by omega))) rfl rfl ?_
    refine wl_nil ?_
    refine xw_next K13 ?_
    refine cw_true rfl ?_
    refine cw_skip ?_
    refine xw_next K12 ?_
    refine cw_seq (fun FK14 K14 => ?_)
    refine cw_block ?_
    refine cw_seq (fun FK15 K15 => ?_)
    refine cw_seq (fun FK16 K16 => ?_)
    refine cw_region ?_
    refine wl_val (v := .string s) (fun ρ e => ex_move (e _ _ rfl)) rfl rfl ?_
    refine wl_val (v := .int .i64 (i : Int)) (fun ρ e => ex_move (e _ _ rfl)) rfl rfl ?_
    refine wl_val (v := .int .u8 (c.toNat : Int)) (fun ρ e => ex_strIdx (i := i) (c := c) (e _ _ rfl) (e _ _ rfl) hc) rfl rfl ?_
    by_cases c17 : (c.toNat : Int) ≥ 48
    · skip
      refine wl_val (v := .bool true) (fun ρ e => ex_cmp (u := (c.toNat : Int)) (v := 48) (e _ _ rfl) (e _ _ rfl) (geq1 (by omega))) rfl rfl ?_
      refine wl_val (v := .bool true) (fun ρ e => ex_move (e _ _ rfl)) rfl rfl ?_
      refine wl_val (v := .string s) (fun ρ e => ex_move (e _ _ rfl)) rfl rfl ?_
      refine wl_val (v := .int .i64 (i : Int)) (fun ρ e => ex_move (e _ _ rfl)) rfl rfl ?_
      refine wl_val (v := .int .u8 (c.toNat : Int)) (fun ρ e => ex_strIdx (i := i) (c := c) (e _ _ rfl) (e _ _ rfl) hc) rfl rfl ?_
      by_cases c18 : (c.toNat : Int) ≤ 57
      · skip
        have hd : isD c = true := isD_yes (by omega) (by omega)
        refine wl_val (v := .bool true) (fun ρ e => ex_cmp (u := (c.toNat : Int)) (v := 57) (e _ _ rfl) (e _ _ rfl) (leq1 (by omega))) rfl rfl ?_
        refine wl_val (v := .bool true) (fun ρ e => ex_pick1 (e _ _ rfl) (e _ _ rfl)) rfl rfl ?_
        refine wl_nil ?_
        refine xw_next K16 ?_
        refine cw_true rfl ?_
        refine cw_seq (fun FK19 K19 => ?_)
        refine cw_region ?_
        refine wl_val (v := .int .i64 0) (fun ρ e => ex_assign (e _ _ rfl)) rfl rfl ?_
        refine wl_nil ?_
        refine xw_next K19 ?_
        refine cw_seq (fun FK20 K20 => ?_)
        refine cw_block ?_
        refine cw_loop (ι := Nat × Int) (fun q => [(0, .string s), (4, .slice At nt ct), (5, .slice Ao no co), (6, .int .i64 (q.1 : Int)), (7, .int .i64 q.2)]) (fun q X => (i ≤ q.1) ∧ (q.1 ≤ s.size) ∧ (takeN (s.data.toList.drop i) 0 = takeN (s.data.toList.drop q.1) q.2) ∧ (0 ≤ q.2 ∧ q.2 ≤ 9999) ∧ (q.1 = i → q.2 = 0) ∧ (i < q.1 → ∃ cl, s.data.toList[q.1 - 1]? = some cl ∧ 48 ≤ cl.toNat ∧ cl.toNat ≤ 57) ∧ Own Z0 W X [.row (.slice At nt ct) 38 3 nt (ncells t), .row (.slice Ao no co) 3 1 no (intCs o)]) (fun q => s.size - q.1) (i, 0) ⟨Nat.le_refl _, (by show i ≤ s.size; omega), rfl, (by show (0 : Int) ≤ 0 ∧ (0 : Int) ≤ 9999; omega), (fun _ => rfl), (fun h => absurd h (Nat.lt_irrefl i)), O11⟩ ⟨rfl, rfl, rfl, rfl, rfl, trivial⟩ (fun q w21 hJ F22 K23 => ?_)
        obtain ⟨ii, n⟩ := q
        obtain ⟨hi1, hi2, htn, hn0, hzero, hlast, O24⟩ := hJ
        dsimp only at hi1 hi2 htn hn0 hzero hlast O24 ⊢
        by_cases hii : ii < s.size
        · skip
          obtain ⟨c1, hc1⟩ : ∃ c1, s.data.toList[ii]? = some c1 := ⟨_, List.getElem?_eq_getElem (show ii < s.data.toList.length by rw [hsl]; exact hii)⟩
          have hdr1 : s.data.toList.drop ii = c1 :: s.data.toList.drop (ii + 1) := drop_get hc1
          have hcb1 := c1.toNat_lt
          refine cw_seq (fun FK25 K25 => ?_)
          refine cw_seq (fun FK26 K26 => ?_)
          refine cw_region ?_
          refine wl_val (v := .int .i64 (ii : Int)) (fun ρ e => ex_move (e _ _ rfl)) rfl rfl ?_
          refine wl_val (v := .string s) (fun ρ e => ex_move (e _ _ rfl)) rfl rfl ?_
          refine wl_val (v := .int .i64 ((s.size : Nat) : Int)) (fun ρ e => ex_lenstr (e _ _ rfl)) rfl rfl ?_
          refine wl_val (v := .bool true) (fun ρ e => ex_cmp (u := (ii : Int)) (v := ((s.size : Nat) : Int)) (e _ _ rfl) (e _ _ rfl) (lss1 (by omega))) rfl rfl ?_
          refine wl_val (v := .bool true) (fun ρ e => ex_move (e _ _ rfl)) rfl rfl ?_
          refine wl_val (v := .string s) (fun ρ e => ex_move (e _ _ rfl)) rfl rfl ?_
          refine wl_val (v := .int .i64 (ii : Int)) (fun ρ e => ex_move (e _ _ rfl)) rfl rfl ?_
          refine wl_val (v := .int .u8 (c1.toNat : Int)) (fun ρ e => ex_strIdx (i := ii) (c := c1) (e _ _ rfl) (e _ _ rfl) hc1) rfl rfl ?_
          by_cases c27 : (c1.toNat : Int) ≥ 48
          · skip
            refine wl_val (v := .bool true) (fun ρ e => ex_cmp (u := (c1.toNat : Int)) (v := 48) (e _ _ rfl) (e _ _ rfl) (geq1 (by omega))) rfl rfl ?_
            refine wl_val (v := .bool true) (fun ρ e => ex_pick1 (e _ _ rfl) (e _ _ rfl)) rfl rfl ?_
            refine wl_val (v := .bool true) (fun ρ e => ex_move (e _ _ rfl)) rfl rfl ?_
            refine wl_val (v := .string s) (fun ρ e => ex_move (e _ _ rfl)) rfl rfl ?_
            refine wl_val (v := .int .i64 (ii : Int)) (fun ρ e => ex_move (e _ _ rfl)) rfl rfl ?_
            refine wl_val (v := .int .u8 (c1.toNat : Int)) (fun ρ e => ex_strIdx (i := ii) (c := c1) (e _ _ rfl) (e _ _ rfl) hc1) rfl rfl ?_
            by_cases c28 : (c1.toNat : Int) ≤ 57
            · skip
              refine wl_val (v := .bool true) (fun ρ e => ex_cmp (u := (c1.toNat : Int)) (v := 57) (e _ _ rfl) (e _ _ rfl) (leq1 (by omega))) rfl rfl ?_
              refine wl_val (v := .bool true) (fun ρ e => ex_pick1 (e _ _ rfl) (e _ _ rfl)) rfl rfl ?_
              refine wl_val (v := .bool true) (fun ρ e => ex_move (e _ _ rfl)) rfl rfl ?_
              refine wl_val (v := .int .i64 n) (fun ρ e => ex_move (e _ _ rfl)) rfl rfl ?_
              by_cases c29 : n < 1000
              · skip
                refine wl_val (v := .bool true) (fun ρ e => ex_cmp (u := n) (v := 1000) (e _ _ rfl) (e _ _ rfl) (lss1 (by omega))) rfl rfl ?_
                refine wl_val (v := .bool true) (fun ρ e => ex_pick1 (e _ _ rfl) (e _ _ rfl)) rfl rfl ?_
                refine wl_nil ?_
                refine xw_next K26 ?_
                refine cw_true rfl ?_
                refine cw_skip ?_
                refine xw_next K25 ?_
                refine cw_block ?_
                refine cw_seq (fun FK30 K30 => ?_)
                refine cw_region ?_
                refine wl_val (v := .int .i64 n) (fun ρ e => ex_move (e _ _ rfl)) rfl rfl ?_
                refine wl_val (v := .int .i64 (10 * n)) (fun ρ e => ex_arith (k := .i64) (u := 10) (v := n) (e _ _ rfl) (e _ _ rfl) (congrArg some (wrap_in (by omega) (by omega)))) rfl rfl ?_
                refine wl_val (v := .string s) (fun ρ e => ex_move (e _ _ rfl)) rfl rfl ?_
                refine wl_val (v := .int .i64 (ii : Int)) (fun ρ e => ex_move (e _ _ rfl)) rfl rfl ?_
                refine wl_val (v := .int .u8 (c1.toNat : Int)) (fun ρ e => ex_strIdx (i := ii) (c := c1) (e _ _ rfl) (e _ _ rfl) hc1) rfl rfl ?_
                refine wl_val (v := .int .u8 ((c1.toNat : Int) - 48)) (fun ρ e => ex_arith (k := .u8) (u := (c1.toNat : Int)) (v := 48) (e _ _ rfl) (e _ _ rfl) (congrArg some (wrap8 (by omega) (by omega)))) rfl rfl ?_
                refine wl_val (v := .int .i64 ((c1.toNat : Int) - 48)) (fun ρ e => ex_conv53 (e _ _ rfl) (by omega) (by omega)) rfl rfl ?_
                refine wl_val (v := .int .i64 ((10 * n) + ((c1.toNat : Int) - 48))) (fun ρ e => ex_arith (k := .i64) (u := (10 * n)) (v := ((c1.toNat : Int) - 48)) (e _ _ rfl) (e _ _ rfl) (congrArg some (wrap_in (by omega) (by omega)))) rfl rfl ?_
                refine wl_val (v := .int .i64 ((10 * n) + ((c1.toNat : Int) - 48))) (fun ρ e => ex_assign (e _ _ rfl)) rfl rfl ?_
                refine wl_nil ?_
                refine xw_next K30 ?_
                refine cw_region ?_
                refine wl_val (v := .int .i64 (ii : Int)) (fun ρ e => ex_move (e _ _ rfl)) rfl rfl ?_
                refine wl_val (v := .int .i64 ((ii + 1 : Nat) : Int)) (fun ρ e => ex_arith (k := .i64) (u := (ii : Int)) (v := 1) (e _ _ rfl) (e _ _ rfl) (congrArg some ((congrArg _ (by omega)).trans (wrap_in (u := ((ii + 1 : Nat) : Int)) (by omega) (by omega))))) rfl rfl ?_
                refine wl_val (v := .int .i64 ((ii + 1 : Nat) : Int)) (fun ρ e => ex_assign (e _ _ rfl)) rfl rfl ?_
                refine wl_nil ?_
                refine xw_block ?_
                refine xw_round K23 (ii + 1, (10 * n + ((c1.toNat : Int) - 48))) (by show s.size - (ii + 1) < s.size - ii; omega) ⟨(by show i ≤ ii + 1; omega), (by show ii + 1 ≤ s.size; omega), (by show takeN _ 0 = takeN _ _; rw [htn, hdr1]; exact takeN_go (by omega) (by omega) (by omega)), (by show (0 : Int) ≤ (10 * n + ((c1.toNat : Int) - 48)) ∧ (10 * n + ((c1.toNat : Int) - 48)) ≤ 9999; omega), (fun h => absurd h (by show ¬ ii + 1 = i; omega)), (fun _ => ⟨c1, hc1, by omega, by omega⟩), O24⟩ ⟨rfl, rfl, rfl, rfl, rfl, trivial⟩
              · skip
                have hst := takeN_stop (c := c1) (r := s.data.toList.drop (ii + 1)) (n := n) (by omega)
                rw [← hdr1] at hst
                refine wl_val (v := .bool false) (fun ρ e => ex_cmp (u := n) (v := 1000) (e _ _ rfl) (e _ _ rfl) (lss0 (by omega))) rfl rfl ?_
                refine wl_val (v := .bool false) (fun ρ e => ex_pick1 (e _ _ rfl) (e _ _ rfl)) rfl rfl ?_
                refine wl_nil ?_
                refine xw_next K26 ?_
                refine cw_false rfl ?_
                refine cw_exit ?_
                refine xw_past (by intro h; cases h) ?_
                refine xw_past (by intro h; cases h) ?_
                refine xw_here ?_
                refine xw_next K20 ?_
                refine cw_seq (fun FK31 K31 => ?_)
                have hii0 : i < ii := by
                  rcases Nat.lt_or_ge i ii with h | h
                  · exact h
                  · exfalso
                    obtain rfl : ii = i := by omega
                    have h0 := hzero rfl
                    subst h0
                    rw [hdr, takeN_go (isD_lo hd) (isD_up hd) (by decide)] at hst
                    have h3 := takeN_len (s.data.toList.drop (ii + 1)) (10 * 0 + ((c.toNat : Int) - 48))
                    rw [hst] at h3
                    simp only [List.length_cons] at h3
                    omega
                obtain ⟨cl, hcl, hcl1, hcl2⟩ := hlast hii0
                refine cw_region ?_
                refine wl_val (v := .int .i64 (ii : Int)) (fun ρ e => ex_move (e _ _ rfl)) rfl rfl ?_
                refine wl_val (v := .int .i64 ((ii - 1 : Nat) : Int)) (fun ρ e => ex_arith (k := .i64) (u := (ii : Int)) (v := 1) (e _ _ rfl) (e _ _ rfl) (congrArg some ((congrArg _ (show _ = ((ii - 1 : Nat) : Int) by omega)).trans (wrap_in (by omega) (by omega))))) rfl rfl ?_
                refine wl_val (v := .int .i64 ((ii - 1 : Nat) : Int)) (fun ρ e => ex_assign (e _ _ rfl)) rfl rfl ?_
                refine wl_nil ?_
                refine xw_next K31 ?_
                refine cw_seq (fun FK32 K32 => ?_)
                refine cw_region ?_
                refine wl_val (v := .slice Ao no co) (fun ρ e => ex_move (e _ _ rfl)) rfl rfl ?_
                refine wl_val (v := .slice At nt ct) (fun ρ e => ex_move (e _ _ rfl)) rfl rfl ?_
                refine wl_val (v := .int .i64 (nt : Int)) (fun ρ e => ex_len el23 (e _ _ rfl)) rfl rfl ?_
                obtain ⟨g33, w34, r35, O36, hg37, hs38⟩ := own_slice O24 el36 ze3 1 [(0, .int .i64 (nt : Int))] (cs := #[.int .i64 (nt : Int)]) (by decide) (by kernel_rfl)
                refine wl_val (v := .slice (some ⟨g33, 0, none⟩) 1 1) (fun ρ e => r35 ρ _ _ _ _ _ _ (e.parts rfl)) rfl rfl ?_
                obtain ⟨A39, c40, w41, r42, O43, hz44, hc45⟩ := own_app1 (O36.re [2, 0, 1] rfl : Own Z0 W w34 [.row (.slice Ao no co) 3 1 no (intCs o), .blk g33 3 #[.int .i64 (nt : Int)], .row (.slice At nt ct) 38 3 nt (ncells t)]) ap36 ((O36.re [2, 0, 1] rfl : Own Z0 W w34 [.row (.slice Ao no co) 3 1 no (intCs o), .blk g33 3 #[.int .i64 (nt : Int)], .row (.slice At nt ct) 38 3 nt (ncells t)]).blk 1 rfl) (cells := [.int .i64 (nt : Int)]) rfl rfl (by omega) (by omega) (ys := (intCs (o ++ [(nt : Int)]))) (by simp [intCs])
                refine wl_val (v := .slice A39 (no + 1) c40) (fun ρ e => r42 ρ _ _ _ _ _ _ _ (e _ _ rfl) (e _ _ rfl)) rfl rfl ?_
                refine wl_val (v := .slice A39 (no + 1) c40) (fun ρ e => ex_assign (e _ _ rfl)) rfl rfl ?_
                refine wl_nil ?_
                refine xw_next K32 ?_
                refine cw_region ?_
                refine wl_val (v := .slice At nt ct) (fun ρ e => ex_move (e _ _ rfl)) rfl rfl ?_
                refine wl_val (v := .int .i64 n) (fun ρ e => ex_move (e _ _ rfl)) rfl rfl ?_
                refine wl_val (v := .agg #[.int .i64 (-1), .int .i64 (-1), .int .i64 n]) (fun ρ e => ex_build (cells := #[.int .i64 (-1), .int .i64 (-1), .int .i64 n]) st38 (e.parts rfl) rfl) rfl rfl ?_
                obtain ⟨g46, w47, r48, O49, hg50, hs51⟩ := own_slice O43 el23 ze38 1 [(0, .agg #[.int .i64 (-1), .int .i64 (-1), .int .i64 n])] (cs := #[.int .i64 (-1), .int .i64 (-1), .int .i64 n]) (by decide) (by kernel_rfl)
                refine wl_val (v := .slice (some ⟨g46, 0, none⟩) 1 1) (fun ρ e => r48 ρ _ _ _ _ _ _ (e.parts rfl)) rfl rfl ?_
                obtain ⟨A52, c53, w54, r55, O56, hz57, hc58⟩ := own_app1 (O49.re [3, 0, 1, 2] rfl : Own Z0 W w47 [.row (.slice At nt ct) 38 3 nt (ncells t), .blk g46 38 #[.int .i64 (-1), .int .i64 (-1), .int .i64 n], .row (.slice A39 (no + 1) c40) 3 1 (no + 1) (intCs (o ++ [(nt : Int)])), .blk g33 3 #[.int .i64 (nt : Int)]]) ap23 ((O49.re [3, 0, 1, 2] rfl : Own Z0 W w47 [.row (.slice At nt ct) 38 3 nt (ncells t), .blk g46 38 #[.int .i64 (-1), .int .i64 (-1), .int .i64 n], .row (.slice A39 (no + 1) c40) 3 1 (no + 1) (intCs (o ++ [(nt : Int)])), .blk g33 3 #[.int .i64 (nt : Int)]]).blk 1 rfl) (cells := [.int .i64 (-1), .int .i64 (-1), .int .i64 n]) rfl rfl (by omega) (by omega) (ys := (ncells (t ++ [(VN.mk (-1) (-1) n)]))) (ncells_snoc t (VN.mk (-1) (-1) n))
                refine wl_val (v := .slice A52 (nt + 1) c53) (fun ρ e => r55 ρ _ _ _ _ _ _ _ (e _ _ rfl) (e _ _ rfl)) rfl rfl ?_
                refine wl_val (v := .slice A52 (nt + 1) c53) (fun ρ e => ex_assign (e _ _ rfl)) rfl rfl ?_
                refine wl_nil ?_
                refine xw_next K15 ?_
                refine cw_seq (fun FK59 K59 => ?_)
                refine cw_region ?_
                refine wl_val (v := .string s) (fun ρ e => ex_move (e _ _ rfl)) rfl rfl ?_
                refine wl_val (v := .int .i64 ((ii - 1 : Nat) : Int)) (fun ρ e => ex_move (e _ _ rfl)) rfl rfl ?_
                refine wl_val (v := .int .u8 (cl.toNat : Int)) (fun ρ e => ex_strIdx (i := ii - 1) (c := cl) (e _ _ rfl) (e _ _ rfl) hcl) rfl rfl ?_
                refine wl_val (v := .bool false) (fun ρ e => ex_cmp (u := (cl.toNat : Int)) (v := 41) (e _ _ rfl) (e _ _ rfl) (eql0 (by omega))) rfl rfl ?_
                refine wl_nil ?_
                refine xw_next K59 ?_
                refine cw_false rfl ?_
                refine cw_skip ?_
                refine xw_block ?_
                refine xw_next K14 ?_
                refine cw_region ?_
                refine wl_val (v := .int .i64 ((ii - 1 : Nat) : Int)) (fun ρ e => ex_move (e _ _ rfl)) rfl rfl ?_
                refine wl_val (v := .int .i64 (ii : Int)) (fun ρ e => ex_arith (k := .i64) (u := ((ii - 1 : Nat) : Int)) (v := 1) (e _ _ rfl) (e _ _ rfl) (congrArg some ((congrArg _ (show _ = (ii : Int) by omega)).trans (wrap_in (by omega) (by omega))))) rfl rfl ?_
                refine wl_val (v := .int .i64 (ii : Int)) (fun ρ e => ex_assign (e _ _ rfl)) rfl rfl ?_
                refine wl_nil ?_
                refine xw_round K10 (ii, f, A52, c53, nt + 1, (t ++ [VN.mk (-1) (-1) n]), A39, c40, no + 1, (o ++ [(nt : Int)])) (by show s.size - ii < s.size - i; omega) ⟨(by show ii ≤ s.size; omega), (by show s.size < ii + f; omega), (by show scanR _ _ [] [] = scanR f (s.data.toList.drop ii) _ _; rw [hnt, hsc, scanR_dig hd, ← hdr, htn, hst]), (by show nt + 1 = (t ++ [_]).length; simp [hnt]), (by show nt + 1 ≤ ii; omega), (by show no + 1 = (o ++ [_]).length; simp [hno]), (by show no + 1 ≤ ii; omega), (O56.re [0, 2] rfl : Own Z0 W w54 [.row (.slice A52 (nt + 1) c53) 38 3 (nt + 1) (ncells (t ++ [(VN.mk (-1) (-1) n)])), .row (.slice A39 (no + 1) c40) 3 1 (no + 1) (intCs (o ++ [(nt : Int)]))])⟩ ⟨rfl, rfl, rfl, rfl, trivial⟩
            · skip
              have hst := takeN_stop (c := c1) (r := s.data.toList.drop (ii + 1)) (n := n) (by omega)
              rw [← hdr1] at hst
              refine wl_val (v := .bool false) (fun ρ e => ex_cmp (u := (c1.toNat : Int)) (v := 57) (e _ _ rfl) (e _ _ rfl) (leq0 (by omega))) rfl rfl ?_
              refine wl_val (v := .bool false) (fun ρ e => ex_pick1 (e _ _ rfl) (e _ _ rfl)) rfl rfl ?_
              refine wl_val (v := .bool false) (fun ρ e => ex_move (e _ _ rfl)) rfl rfl ?_
              refine wl_skip rfl rfl ?_
              refine wl_skip rfl rfl ?_
              refine wl_val (v := .bool false) (fun ρ e => ex_pick0 (e _ _ rfl) (e _ _ rfl)) rfl rfl ?_
              refine wl_nil ?_
              refine xw_next K26 ?_
              refine cw_false rfl ?_
              refine cw_exit ?_
              refine xw_past (by intro h; cases h) ?_
              refine xw_past (by intro h; cases h) ?_
              refine xw_here ?_
              refine xw_next K20 ?_
              refine cw_seq (fun FK60 K60 => ?_)
              have hii0 : i < ii := by
                rcases Nat.lt_or_ge i ii with h | h
                · exact h
                · exfalso
                  obtain rfl : ii = i := by omega
                  have h0 := hzero rfl
                  subst h0
                  rw [hdr, takeN_go (isD_lo hd) (isD_up hd) (by decide)] at hst
                  have h3 := takeN_len (s.data.toList.drop (ii + 1)) (10 * 0 + ((c.toNat : Int) - 48))
                  rw [hst] at h3
                  simp only [List.length_cons] at h3
                  omega
              obtain ⟨cl, hcl, hcl1, hcl2⟩ := hlast hii0
              refine cw_region ?_
              refine wl_val (v := .int .i64 (ii : Int)) (fun ρ e => ex_move (e _ _ rfl)) rfl rfl ?_
              refine wl_val (v := .int .i64 ((ii - 1 : Nat) : Int)) (fun ρ e => ex_arith (k := .i64) (u := (ii : Int)) (v := 1) (e _ _ rfl) (e _ _ rfl) (congrArg some ((congrArg _ (show _ = ((ii - 1 : Nat) : Int) by omega)).trans (wrap_in (by omega) (by omega))))) rfl rfl ?_
              refine wl_val (v := .int .i64 ((ii - 1 : Nat) : Int)) (fun ρ e => ex_assign (e _ _ rfl)) rfl rfl ?_
              refine wl_nil ?_
              refine xw_next K60 ?_
              refine cw_seq (fun FK61 K61 => ?_)
              refine cw_region ?_
              refine wl_val (v := .slice Ao no co) (fun ρ e => ex_move (e _ _ rfl)) rfl rfl ?_
              refine wl_val (v := .slice At nt ct) (fun ρ e => ex_move (e _ _ rfl)) rfl rfl ?_
              refine wl_val (v := .int .i64 (nt : Int)) (fun ρ e => ex_len el23 (e _ _ rfl)) rfl rfl ?_
              obtain ⟨g62, w63, r64, O65, hg66, hs67⟩ := own_slice O24 el36 ze3 1 [(0, .int .i64 (nt : Int))] (cs := #[.int .i64 (nt : Int)]) (by decide) (by kernel_rfl)
              refine wl_val (v := .slice (some ⟨g62, 0, none⟩) 1 1) (fun ρ e => r64 ρ _ _ _ _ _ _ (e.parts rfl)) rfl rfl ?_
              obtain ⟨A68, c69, w70, r71, O72, hz73, hc74⟩ := own_app1 (O65.re [2, 0, 1] rfl : Own Z0 W w63 [.row (.slice Ao no co) 3 1 no (intCs o), .blk g62 3 #[.int .i64 (nt : Int)], .row (.slice At nt ct) 38 3 nt (ncells t)]) ap36 ((O65.re [2, 0, 1] rfl : Own Z0 W w63 [.row (.slice Ao no co) 3 1 no (intCs o), .blk g62 3 #[.int .i64 (nt : Int)], .row (.slice At nt ct) 38 3 nt (ncells t)]).blk 1 rfl) (cells := [.int .i64 (nt : Int)]) rfl rfl (by omega) (by omega) (ys := (intCs (o ++ [(nt : Int)]))) (by simp [intCs])
              refine wl_val (v := .slice A68 (no + 1) c69) (fun ρ e => r71 ρ _ _ _ _ _ _ _ (e _ _ rfl) (e _ _ rfl)) rfl rfl ?_
              refine wl_val (v := .slice A68 (no + 1) c69) (fun ρ e => ex_assign (e _ _ rfl)) rfl rfl ?_
              refine wl_nil ?_
              refine xw_next K61 ?_
              refine cw_region ?_
              refine wl_val (v := .slice At nt ct) (fun ρ e => ex_move (e _ _ rfl)) rfl rfl ?_
              refine wl_val (v := .int .i64 n) (fun ρ e => ex_move (e _ _ rfl)) rfl rfl ?_
              refine wl_val (v := .agg #[.int .i64 (-1), .int .i64 (-1), .int .i64 n]) (fun ρ e => ex_build (cells := #[.int .i64 (-1), .int .i64 (-1), .int .i64 n]) st38 (e.parts rfl) rfl) rfl rfl ?_
              obtain ⟨g75, w76, r77, O78, hg79, hs80⟩ := own_slice O72 el23 ze38 1 [(0, .agg #[.int .i64 (-1), .int .i64 (-1), .int .i64 n])] (cs := #[.int .i64 (-1), .int .i64 (-1), .int .i64 n]) (by decide) (by kernel_rfl)
              refine wl_val (v := .slice (some ⟨g75, 0, none⟩) 1 1) (fun ρ e => r77 ρ _ _ _ _ _ _ (e.parts rfl)) rfl rfl ?_
              obtain ⟨A81, c82, w83, r84, O85, hz86, hc87⟩ := own_app1 (O78.re [3, 0, 1, 2] rfl : Own Z0 W w76 [.row (.slice At nt ct) 38 3 nt (ncells t), .blk g75 38 #[.int .i64 (-1), .int .i64 (-1), .int .i64 n], .row (.slice A68 (no + 1) c69) 3 1 (no + 1) (intCs (o ++ [(nt : Int)])), .blk g62 3 #[.int .i64 (nt : Int)]]) ap23 ((O78.re [3, 0, 1, 2] rfl : Own Z0 W w76 [.row (.slice At nt ct) 38 3 nt (ncells t), .blk g75 38 #[.int .i64 (-1), .int .i64 (-1), .int .i64 n], .row (.slice A68 (no + 1) c69) 3 1 (no + 1) (intCs (o ++ [(nt : Int)])), .blk g62 3 #[.int .i64 (nt : Int)]]).blk 1 rfl) (cells := [.int .i64 (-1), .int .i64 (-1), .int .i64 n]) rfl rfl (by omega) (by omega) (ys := (ncells (t ++ [(VN.mk (-1) (-1) n)]))) (ncells_snoc t (VN.mk (-1) (-1) n))
              refine wl_val (v := .slice A81 (nt + 1) c82) (fun ρ e => r84 ρ _ _ _ _ _ _ _ (e _ _ rfl) (e _ _ rfl)) rfl rfl ?_
              refine wl_val (v := .slice A81 (nt + 1) c82) (fun ρ e => ex_assign (e _ _ rfl)) rfl rfl ?_
              refine wl_nil ?_
              refine xw_next K15 ?_
              refine cw_seq (fun FK88 K88 => ?_)
              refine cw_region ?_
              refine wl_val (v := .string s) (fun ρ e => ex_move (e _ _ rfl)) rfl rfl ?_
              refine wl_val (v := .int .i64 ((ii - 1 : Nat) : Int)) (fun ρ e => ex_move (e _ _ rfl)) rfl rfl ?_
              refine wl_val (v := .int .u8 (cl.toNat : Int)) (fun ρ e => ex_strIdx (i := ii - 1) (c := cl) (e _ _ rfl) (e _ _ rfl) hcl) rfl rfl ?_
              refine wl_val (v := .bool false) (fun ρ e => ex_cmp (u := (cl.toNat : Int)) (v := 41) (e _ _ rfl) (e _ _ rfl) (eql0 (by omega))) rfl rfl ?_
              refine wl_nil ?_
              refine xw_next K88 ?_
              refine cw_false rfl ?_
              refine cw_skip ?_
              refine xw_block ?_
              refine xw_next K14 ?_
              refine cw_region ?_
              refine wl_val (v := .int .i64 ((ii - 1 : Nat) : Int)) (fun ρ e => ex_move (e _ _ rfl)) rfl rfl ?_
              refine wl_val (v := .int .i64 (ii : Int)) (fun ρ e => ex_arith (k := .i64) (u := ((ii - 1 : Nat) : Int)) (v := 1) (e _ _ rfl) (e _ _ rfl) (congrArg some ((congrArg _ (show _ = (ii : Int) by omega)).trans (wrap_in (by omega) (by omega))))) rfl rfl ?_
              refine wl_val (v := .int .i64 (ii : Int)) (fun ρ e => ex_assign (e _ _ rfl)) rfl rfl ?_
              refine wl_nil ?_
              refine xw_round K10 (ii, f, A81, c82, nt + 1, (t ++ [VN.mk (-1) (-1) n]), A68, c69, no + 1, (o ++ [(nt : Int)])) (by show s.size - ii < s.size - i; omega) ⟨(by show ii ≤ s.size; omega), (by show s.size < ii + f; omega), (by show scanR _ _ [] [] = scanR f (s.data.toList.drop ii) _ _; rw [hnt, hsc, scanR_dig hd, ← hdr, htn, hst]), (by show nt + 1 = (t ++ [_]).length; simp [hnt]), (by show nt + 1 ≤ ii; omega), (by show no + 1 = (o ++ [_]).length; simp [hno]), (by show no + 1 ≤ ii; omega), (O85.re [0, 2] rfl : Own Z0 W w83 [.row (.slice A81 (nt + 1) c82) 38 3 (nt + 1) (ncells (t ++ [(VN.mk (-1) (-1) n)])), .row (.slice A68 (no + 1) c69) 3 1 (no + 1) (intCs (o ++ [(nt : Int)]))])⟩ ⟨rfl, rfl, rfl, rfl, trivial⟩
          · skip
            have hst := takeN_stop (c := c1) (r := s.data.toList.drop (ii + 1)) (n := n) (by omega)
            rw [← hdr1] at hst
            refine wl_val (v := .bool false) (fun ρ e => ex_cmp (u := (c1.toNat : Int)) (v := 48) (e _ _ rfl) (e _ _ rfl) (geq0 (by omega))) rfl rfl ?_
            refine wl_val (v := .bool false) (fun ρ e => ex_pick1 (e _ _ rfl) (e _ _ rfl)) rfl rfl ?_
            refine wl_val (v := .bool false) (fun ρ e => ex_move (e _ _ rfl)) rfl rfl ?_
            refine wl_skip rfl rfl ?_
            refine wl_skip rfl rfl ?_
            refine wl_skip rfl rfl ?_
            refine wl_skip rfl rfl ?_
            refine wl_val (v := .bool false) (fun ρ e => ex_pick0 (e _ _ rfl) (e _ _ rfl)) rfl rfl ?_
            refine wl_val (v := .bool false) (fun ρ e => ex_move (e _ _ rfl)) rfl rfl ?_
            refine wl_skip rfl rfl ?_
            refine wl_skip rfl rfl ?_
            refine wl_val (v := .bool false) (fun ρ e => ex_pick0 (e _ _ rfl) (e _ _ rfl)) rfl rfl ?_
            refine wl_nil ?_
            refine xw_next K26 ?_
            refine cw_false rfl ?_
            refine cw_exit ?_
            refine xw_past (by intro h; cases h) ?_
            refine xw_past (by intro h; cases h) ?_
            refine xw_here ?_
            refine xw_next K20 ?_
            refine cw_seq (fun FK89 K89 => ?_)
            have hii0 : i < ii := by
              rcases Nat.lt_or_ge i ii with h | h
              · exact h
              · exfalso
                obtain rfl : ii = i := by omega
                have h0 := hzero rfl
                subst h0
                rw [hdr, takeN_go (isD_lo hd) (isD_up hd) (by decide)] at hst
                have h3 := takeN_len (s.data.toList.drop (ii + 1)) (10 * 0 + ((c.toNat : Int) - 48))
                rw [hst] at h3
                simp only [List.length_cons] at h3
                omega
            obtain ⟨cl, hcl, hcl1, hcl2⟩ := hlast hii0
            refine cw_region ?_
            refine wl_val (v := .int .i64 (ii : Int)) (fun ρ e => ex_move (e _ _ rfl)) rfl rfl ?_
            refine wl_val (v := .int .i64 ((ii - 1 : Nat) : Int)) (fun ρ e => ex_arith (k := .i64) (u := (ii : Int)) (v := 1) (e _ _ rfl) (e _ _ rfl) (congrArg some ((congrArg _ (show _ = ((ii - 1 : Nat) : Int) by omega)).trans (wrap_in (by omega) (by omega))))) rfl rfl ?_
            refine wl_val (v := .int .i64 ((ii - 1 : Nat) : Int)) (fun ρ e => ex_assign (e _ _ rfl)) rfl rfl ?_
            refine wl_nil ?_
            refine xw_next K89 ?_
            refine cw_seq (fun FK90 K90 => ?_)
            refine cw_region ?_
            refine wl_val (v := .slice Ao no co) (fun ρ e => ex_move (e _ _ rfl)) rfl rfl ?_
            refine wl_val (v := .slice At nt ct) (fun ρ e => ex_move (e _ _ rfl)) rfl rfl ?_
            refine wl_val (v := .int .i64 (nt : Int)) (fun ρ e => ex_len el23 (e _ _ rfl)) rfl rfl ?_
            obtain ⟨g91, w92, r93, O94, hg95, hs96⟩ := own_slice O24 el36 ze3 1 [(0, .int .i64 (nt : Int))] (cs := #[.int .i64 (nt : Int)]) (by decide) (by kernel_rfl)
            refine wl_val (v := .slice (some ⟨g91, 0, none⟩) 1 1) (fun ρ e => r93 ρ _ _ _ _ _ _ (e.parts rfl)) rfl rfl ?_
            obtain ⟨A97, c98, w99, r100, O101, hz102, hc103⟩ := own_app1 (O94.re [2, 0, 1] rfl : Own Z0 W w92 [.row (.slice Ao no co) 3 1 no (intCs o), .blk g91 3 #[.int .i64 (nt : Int)], .row (.slice At nt ct) 38 3 nt (ncells t)]) ap36 ((O94.re [2, 0, 1] rfl : Own Z0 W w92 [.row (.slice Ao no co) 3 1 no (intCs o), .blk g91 3 #[.int .i64 (nt : Int)], .row (.slice At nt ct) 38 3 nt (ncells t)]).blk 1 rfl) (cells := [.int .i64 (nt : Int)]) rfl rfl (by omega) (by omega) (ys := (intCs (o ++ [(nt : Int)]))) (by simp [intCs])
            refine wl_val (v := .slice A97 (no + 1) c98) (fun ρ e => r100 ρ _ _ _ _ _ _ _ (e _ _ rfl) (e _ _ rfl)) rfl rfl ?_
            refine wl_val (v := .slice A97 (no + 1) c98) (fun ρ e => ex_assign (e _ _ rfl)) rfl rfl ?_
            refine wl_nil ?_
            refine xw_next K90 ?_
            refine cw_region ?_
            refine wl_val (v := .slice At nt ct) (fun ρ e => ex_move (e _ _ rfl)) rfl rfl ?_
            refine wl_val (v := .int .i64 n) (fun ρ e => ex_move (e _ _ rfl)) rfl rfl ?_
            refine wl_val (v := .agg #[.int .i64 (-1), .int .i64 (-1), .int .i64 n]) (fun ρ e => ex_build (cells := #[.int .i64 (-1), .int .i64 (-1), .int .i64 n]) st38 (e.parts rfl) rfl) rfl rfl ?_
            obtain ⟨g104, w105, r106, O107, hg108, hs109⟩ := own_slice O101 el23 ze38 1 [(0, .agg #[.int .i64 (-1), .int .i64 (-1), .int .i64 n])] (cs := #[.int .i64 (-1), .int .i64 (-1), .int .i64 n]) (by decide) (by kernel_rfl)
            refine wl_val (v := .slice (some ⟨g104, 0, none⟩) 1 1) (fun ρ e => r106 ρ _ _ _ _ _ _ (e.parts rfl)) rfl rfl ?_
            obtain ⟨A110, c111, w112, r113, O114, hz115, hc116⟩ := own_app1 (O107.re [3, 0, 1, 2] rfl : Own Z0 W w105 [.row (.slice At nt ct) 38 3 nt (ncells t), .blk g104 38 #[.int .i64 (-1), .int .i64 (-1), .int .i64 n], .row (.slice A97 (no + 1) c98) 3 1 (no + 1) (intCs (o ++ [(nt : Int)])), .blk g91 3 #[.int .i64 (nt : Int)]]) ap23 ((O107.re [3, 0, 1, 2] rfl : Own Z0 W w105 [.row (.slice At nt ct) 38 3 nt (ncells t), .blk g104 38 #[.int .i64 (-1), .int .i64 (-1), .int .i64 n], .row (.slice A97 (no + 1) c98) 3 1 (no + 1) (intCs (o ++ [(nt : Int)])), .blk g91 3 #[.int .i64 (nt : Int)]]).blk 1 rfl) (cells := [.int .i64 (-1), .int .i64 (-1), .int .i64 n]) rfl rfl (by omega) (by omega) (ys := (ncells (t ++ [(VN.mk (-1) (-1) n)]))) (ncells_snoc t (VN.mk (-1) (-1) n))
            refine wl_val (v := .slice A110 (nt + 1) c111) (fun ρ e => r113 ρ _ _ _ _ _ _ _ (e _ _ rfl) (e _ _ rfl)) rfl rfl ?_
            refine wl_val (v := .slice A110 (nt + 1) c111) (fun ρ e => ex_assign (e _ _ rfl)) rfl rfl ?_
            refine wl_nil ?_
            refine xw_next K15 ?_
            refine cw_seq (fun FK117 K117 => ?_)
            refine cw_region ?_
            refine wl_val (v := .string s) (fun ρ e => ex_move (e _ _ rfl)) rfl rfl ?_
            refine wl_val (v := .int .i64 ((ii - 1 : Nat) : Int)) (fun ρ e => ex_move (e _ _ rfl)) rfl rfl ?_
            refine wl_val (v := .int .u8 (cl.toNat : Int)) (fun ρ e => ex_strIdx (i := ii - 1) (c := cl) (e _ _ rfl) (e _ _ rfl) hcl) rfl rfl ?_
            refine wl_val (v := .bool false) (fun ρ e => ex_cmp (u := (cl.toNat : Int)) (v := 41) (e _ _ rfl) (e _ _ rfl) (eql0 (by omega))) rfl rfl ?_
            refine wl_nil ?_
            refine xw_next K117 ?_
            refine cw_false rfl ?_
            refine cw_skip ?_
            refine xw_block ?_
            refine xw_next K14 ?_
            refine cw_region ?_
            refine wl_val (v := .int .i64 ((ii - 1 : Nat) : Int)) (fun ρ e => ex_move (e _ _ rfl)) rfl rfl ?_
            refine wl_val (v := .int .i64 (ii : Int)) (fun ρ e => ex_arith (k := .i64) (u := ((ii - 1 : Nat) : Int)) (v := 1) (e _ _ rfl) (e _ _ rfl) (congrArg some ((congrArg _ (show _ = (ii : Int) by omega)).trans (wrap_in (by omega) (by omega))))) rfl rfl ?_
            refine wl_val (v := .int .i64 (ii : Int)) (fun ρ e => ex_assign (e _ _ rfl)) rfl rfl ?_
            refine wl_nil ?_
            refine xw_round K10 (ii, f, A110, c111, nt + 1, (t ++ [VN.mk (-1) (-1) n]), A97, c98, no + 1, (o ++ [(nt : Int)])) (by show s.size - ii < s.size - i; omega) ⟨(by show ii ≤ s.size; omega), (by show s.size < ii + f; omega), (by show scanR _ _ [] [] = scanR f (s.data.toList.drop ii) _ _; rw [hnt, hsc, scanR_dig hd, ← hdr, htn, hst]), (by show nt + 1 = (t ++ [_]).length; simp [hnt]), (by show nt + 1 ≤ ii; omega), (by show no + 1 = (o ++ [_]).length; simp [hno]), (by show no + 1 ≤ ii; omega), (O114.re [0, 2] rfl : Own Z0 W w112 [.row (.slice A110 (nt + 1) c111) 38 3 (nt + 1) (ncells (t ++ [(VN.mk (-1) (-1) n)])), .row (.slice A97 (no + 1) c98) 3 1 (no + 1) (intCs (o ++ [(nt : Int)]))])⟩ ⟨rfl, rfl, rfl, rfl, trivial⟩
        · have hst : takeN (s.data.toList.drop ii) n = (n, s.data.toList.drop ii) := by rw [List.drop_eq_nil_of_le (show s.data.toList.length ≤ ii by rw [hsl]; omega)]; rfl
          refine cw_seq (fun FK118 K118 => ?_)
          refine cw_seq (fun FK119 K119 => ?_)
          refine cw_region ?_
          refine wl_val (v := .int .i64 (ii : Int)) (fun ρ e => ex_move (e _ _ rfl)) rfl rfl ?_
          refine wl_val (v := .string s) (fun ρ e => ex_move (e _ _ rfl)) rfl rfl ?_
          refine wl_val (v := .int .i64 ((s.size : Nat) : Int)) (fun ρ e => ex_lenstr (e _ _ rfl)) rfl rfl ?_
          refine wl_val (v := .bool false) (fun ρ e => ex_cmp (u := (ii : Int)) (v := ((s.size : Nat) : Int)) (e _ _ rfl) (e _ _ rfl) (lss0 (by omega))) rfl rfl ?_
          refine wl_val (v := .bool false) (fun ρ e => ex_move (e _ _ rfl)) rfl rfl ?_
          refine wl_skip rfl rfl ?_
          refine wl_skip rfl rfl ?_
          refine wl_skip rfl rfl ?_
          refine wl_skip rfl rfl ?_
          refine wl_val (v := .bool false) (fun ρ e => ex_pick0 (e _ _ rfl) (e _ _ rfl)) rfl rfl ?_
          refine wl_val (v := .bool false) (fun ρ e => ex_move (e _ _ rfl)) rfl rfl ?_
          refine wl_skip rfl rfl ?_
          refine wl_skip rfl rfl ?_
          refine wl_skip rfl rfl ?_
          refine wl_skip rfl rfl ?_
          refine wl_val (v := .bool false) (fun ρ e => ex_pick0 (e _ _ rfl) (e _ _ rfl)) rfl rfl ?_
          refine wl_val (v := .bool false) (fun ρ e => ex_move (e _ _ rfl)) rfl rfl ?_
          refine wl_skip rfl rfl ?_
          refine wl_skip rfl rfl ?_
          refine wl_val (v := .bool false) (fun ρ e => ex_pick0 (e _ _ rfl) (e _ _ rfl)) rfl rfl ?_
          refine wl_nil ?_
          refine xw_next K119 ?_
          refine cw_false rfl ?_
          refine cw_exit ?_
          refine xw_past (by intro h; cases h) ?_
          refine xw_past (by intro h; cases h) ?_
          refine xw_here ?_
          refine xw_next K20 ?_
          refine cw_seq (fun FK120 K120 => ?_)
          have hii0 : i < ii := by
            rcases Nat.lt_or_ge i ii with h | h
            · exact h
            · exfalso
              obtain rfl : ii = i := by omega
              have h0 := hzero rfl
              subst h0
              rw [hdr, takeN_go (isD_lo hd) (isD_up hd) (by decide)] at hst
              have h3 := takeN_len (s.data.toList.drop (ii + 1)) (10 * 0 + ((c.toNat : Int) - 48))
              rw [hst] at h3
              simp only [List.length_cons] at h3
              omega
          obtain ⟨cl, hcl, hcl1, hcl2⟩ := hlast hii0
          refine cw_region ?_
          refine wl_val (v := .int .i64 (ii : Int)) (fun ρ e => ex_move (e _ _ rfl)) rfl rfl ?_
          refine wl_val (v := .int .i64 ((ii - 1 : Nat) : Int)) (fun ρ e => ex_arith (k := .i64) (u := (ii : Int)) (v := 1) (e _ _ rfl) (e _ _ rfl) (congrArg some ((congrArg _ (show _ = ((ii - 1 : Nat) : Int) by omega)).trans (wrap_in (by omega) (by omega))))) rfl rfl ?_
          refine wl_val (v := .int .i64 ((ii - 1 : Nat) : Int)) (fun ρ e => ex_assign (e _ _ rfl)) rfl rfl ?_
          refine wl_nil ?_
          refine xw_next K120 ?_
          refine cw_seq (fun FK121 K121 => ?_)
          refine cw_region ?_
          refine wl_val (v := .slice Ao no co) (fun ρ e => ex_move (e _ _ rfl)) rfl rfl ?_
          refine wl_val (v := .slice At nt ct) (fun ρ e => ex_move (e _ _ rfl)) rfl rfl ?_
          refine wl_val (v := .int .i64 (nt : Int)) (fun ρ e => ex_len el23 (e _ _ rfl)) rfl rfl ?_
          obtain ⟨g122, w123, r124, O125, hg126, hs127⟩ := own_slice O24 el36 ze3 1 [(0, .int .i64 (nt : Int))] (cs := #[.int .i64 (nt : Int)]) (by decide) (by kernel_rfl)
          refine wl_val (v := .slice (some ⟨g122, 0, none⟩) 1 1) (fun ρ e => r124 ρ _ _ _ _ _ _ (e.parts rfl)) rfl rfl ?_
          obtain ⟨A128, c129, w130, r131, O132, hz133, hc134⟩ := own_app1 (O125.re [2, 0, 1] rfl : Own Z0 W w123 [.row (.slice Ao no co) 3 1 no (intCs o), .blk g122 3 #[.int .i64 (nt : Int)], .row (.slice At nt ct) 38 3 nt (ncells t)]) ap36 ((O125.re [2, 0, 1] rfl : Own Z0 W w123 [.row (.slice Ao no co) 3 1 no (intCs o), .blk g122 3 #[.int .i64 (nt : Int)], .row (.slice At nt ct) 38 3 nt (ncells t)]).blk 1 rfl) (cells := [.int .i64 (nt : Int)]) rfl rfl (by omega) (by omega) (ys := (intCs (o ++ [(nt : Int)]))) (by simp [intCs])
          refine wl_val (v := .slice A128 (no + 1) c129) (fun ρ e => r131 ρ _ _ _ _ _ _ _ (e _ _ rfl) (e _ _ rfl)) rfl rfl ?_
          refine wl_val (v := .slice A128 (no + 1) c129) (fun ρ e => ex_assign (e _ _ rfl)) rfl rfl ?_
          refine wl_nil ?_
          refine xw_next K121 ?_
          refine cw_region ?_
          refine wl_val (v := .slice At nt ct) (fun ρ e => ex_move (e _ _ rfl)) rfl rfl ?_
          refine wl_val (v := .int .i64 n) (fun ρ e => ex_move (e _ _ rfl)) rfl rfl ?_
          refine wl_val (v := .agg #[.int .i64 (-1), .int .i64 (-1), .int .i64 n]) (fun ρ e => ex_build (cells := #[.int .i64 (-1), .int .i64 (-1), .int .i64 n]) st38 (e.parts rfl) rfl) rfl rfl ?_
          obtain ⟨g135, w136, r137, O138, hg139, hs140⟩ := own_slice O132 el23 ze38 1 [(0, .agg #[.int .i64 (-1), .int .i64 (-1), .int .i64 n])] (cs := #[.int .i64 (-1), .int .i64 (-1), .int .i64 n]) (by decide) (by kernel_rfl)
          refine wl_val (v := .slice (some ⟨g135, 0, none⟩) 1 1) (fun ρ e => r137 ρ _ _ _ _ _ _ (e.parts rfl)) rfl rfl ?_
          obtain ⟨A141, c142, w143, r144, O145, hz146, hc147⟩ := own_app1 (O138.re [3, 0, 1, 2] rfl : Own Z0 W w136 [.row (.slice At nt ct) 38 3 nt (ncells t), .blk g135 38 #[.int .i64 (-1), .int .i64 (-1), .int .i64 n], .row (.slice A128 (no + 1) c129) 3 1 (no + 1) (intCs (o ++ [(nt : Int)])), .blk g122 3 #[.int .i64 (nt : Int)]]) ap23 ((O138.re [3, 0, 1, 2] rfl : Own Z0 W w136 [.row (.slice At nt ct) 38 3 nt (ncells t), .blk g135 38 #[.int .i64 (-1), .int .i64 (-1), .int .i64 n], .row (.slice A128 (no + 1) c129) 3 1 (no + 1) (intCs (o ++ [(nt : Int)])), .blk g122 3 #[.int .i64 (nt : Int)]]).blk 1 rfl) (cells := [.int .i64 (-1), .int .i64 (-1), .int .i64 n]) rfl rfl (by omega) (by omega) (ys := (ncells (t ++ [(VN.mk (-1) (-1) n)]))) (ncells_snoc t (VN.mk (-1) (-1) n))
          refine wl_val (v := .slice A141 (nt + 1) c142) (fun ρ e => r144 ρ _ _ _ _ _ _ _ (e _ _ rfl) (e _ _ rfl)) rfl rfl ?_
          refine wl_val (v := .slice A141 (nt + 1) c142) (fun ρ e => ex_assign (e _ _ rfl)) rfl rfl ?_
          refine wl_nil ?_
          refine xw_next K15 ?_
          refine cw_seq (fun FK148 K148 => ?_)
          refine cw_region ?_
          refine wl_val (v := .string s) (fun ρ e => ex_move (e _ _ rfl)) rfl rfl ?_
          refine wl_val (v := .int .i64 ((ii - 1 : Nat) : Int)) (fun ρ e => ex_move (e _ _ rfl)) rfl rfl ?_
          refine wl_val (v := .int .u8 (cl.toNat : Int)) (fun ρ e => ex_strIdx (i := ii - 1) (c := cl) (e _ _ rfl) (e _ _ rfl) hcl) rfl rfl ?_
          refine wl_val (v := .bool false) (fun ρ e => ex_cmp (u := (cl.toNat : Int)) (v := 41) (e _ _ rfl) (e _ _ rfl) (eql0 (by omega))) rfl rfl ?_
          refine wl_nil ?_
          refine xw_next K148 ?_
          refine cw_false rfl ?_
          refine cw_skip ?_
          refine xw_block ?_
          refine xw_next K14 ?_
          refine cw_region ?_
          refine wl_val (v := .int .i64 ((ii - 1 : Nat) : Int)) (fun ρ e => ex_move (e _ _ rfl)) rfl rfl ?_
          refine wl_val (v := .int .i64 (ii : Int)) (fun ρ e => ex_arith (k := .i64) (u := ((ii - 1 : Nat) : Int)) (v := 1) (e _ _ rfl) (e _ _ rfl) (congrArg some ((congrArg _ (show _ = (ii : Int) by omega)).trans (wrap_in (by omega) (by omega))))) rfl rfl ?_
          refine wl_val (v := .int .i64 (ii : Int)) (fun ρ e => ex_assign (e _ _ rfl)) rfl rfl ?_
          refine wl_nil ?_
          refine xw_round K10 (ii, f, A141, c142, nt + 1, (t ++ [VN.mk (-1) (-1) n]), A128, c129, no + 1, (o ++ [(nt : Int)])) (by show s.size - ii < s.size - i; omega) ⟨(by show ii ≤ s.size; omega), (by show s.size < ii + f; omega), (by show scanR _ _ [] [] = scanR f (s.data.toList.drop ii) _ _; rw [hnt, hsc, scanR_dig hd, ← hdr, htn, hst]), (by show nt + 1 = (t ++ [_]).length; simp [hnt]), (by show nt + 1 ≤ ii; omega), (by show no + 1 = (o ++ [_]).length; simp [hno]), (by show no + 1 ≤ ii; omega), (O145.re [0, 2] rfl : Own Z0 W w143 [.row (.slice A141 (nt + 1) c142) 38 3 (nt + 1) (ncells (t ++ [(VN.mk (-1) (-1) n)])), .row (.slice A128 (no + 1) c129) 3 1 (no + 1) (intCs (o ++ [(nt : Int)]))])⟩ ⟨rfl, rfl, rfl, rfl, trivial⟩
      · skip
        have hnd : isD c = false := isD_no (by omega)
        refine wl_val (v := .bool false) (fun ρ e => ex_cmp (u := (c.toNat : Int)) (v := 57) (e _ _ rfl) (e _ _ rfl) (leq0 (by omega))) rfl rfl ?_
        refine wl_val (v := .bool false) (fun ρ e => ex_pick1 (e _ _ rfl) (e _ _ rfl)) rfl rfl ?_
        refine wl_nil ?_
        refine xw_next K16 ?_
        refine cw_false rfl ?_
        refine cw_skip ?_
        refine xw_next K15 ?_
        refine cw_seq (fun FK149 K149 => ?_)
        refine cw_region ?_
        refine wl_val (v := .string s) (fun ρ e => ex_move (e _ _ rfl)) rfl rfl ?_
        refine wl_val (v := .int .i64 (i : Int)) (fun ρ e => ex_move (e _ _ rfl)) rfl rfl ?_
        refine wl_val (v := .int .u8 (c.toNat : Int)) (fun ρ e => ex_strIdx (i := i) (c := c) (e _ _ rfl) (e _ _ rfl) hc) rfl rfl ?_
        refine wl_val (v := .bool false) (fun ρ e => ex_cmp (u := (c.toNat : Int)) (v := 41) (e _ _ rfl) (e _ _ rfl) (eql0 (by omega))) rfl rfl ?_
        refine wl_nil ?_
        refine xw_next K149 ?_
        refine cw_false rfl ?_
        refine cw_skip ?_
        refine xw_block ?_
        refine xw_next K14 ?_
        refine cw_region ?_
        refine wl_val (v := .int .i64 (i : Int)) (fun ρ e => ex_move (e _ _ rfl)) rfl rfl ?_
        refine wl_val (v := .int .i64 ((i + 1 : Nat) : Int)) (fun ρ e => ex_arith (k := .i64) (u := (i : Int)) (v := 1) (e _ _ rfl) (e _ _ rfl) (congrArg some ((congrArg _ (by omega)).trans (wrap_in (u := ((i + 1 : Nat) : Int)) (by omega) (by omega))))) rfl rfl ?_
        refine wl_val (v := .int .i64 ((i + 1 : Nat) : Int)) (fun ρ e => ex_assign (e _ _ rfl)) rfl rfl ?_
        refine wl_nil ?_
        refine xw_round K10 (i + 1, f, At, ct, nt, t, Ao, co, no, o) (by show s.size - (i + 1) < s.size - i; omega) ⟨(by show i + 1 ≤ s.size; omega), (by show s.size < i + 1 + f; omega), (by show scanR _ _ [] [] = scanR f _ _ _; rw [hsc]; exact scanR_skip hnd (by omega)), hnt, (by show nt ≤ i + 1; omega), hno, (by show no ≤ i + 1; omega), O11⟩ ⟨rfl, rfl, rfl, rfl, trivial⟩
    · skip
      have hnd : isD c = false := isD_no (by omega)
      refine wl_val (v := .bool false) (fun ρ e => ex_cmp (u := (c.toNat : Int)) (v := 48) (e _ _ rfl) (e _ _ rfl) (geq0 (by omega))) rfl rfl ?_
      refine wl_val (v := .bool false) (fun ρ e => ex_move (e _ _ rfl)) rfl rfl ?_
      refine wl_skip rfl rfl ?_
      refine wl_skip rfl rfl ?_
      refine wl_skip rfl rfl ?_
      refine wl_skip rfl rfl ?_
      refine wl_val (v := .bool false) (fun ρ e => ex_pick0 (e _ _ rfl) (e _ _ rfl)) rfl rfl ?_
      refine wl_nil ?_
      refine xw_next K16 ?_
      refine cw_false rfl ?_
      refine cw_skip ?_
      refine xw_next K15 ?_
      refine cw_seq (fun FK150 K150 => ?_)
      refine cw_region ?_
      refine wl_val (v := .string s) (fun ρ e => ex_move (e _ _ rfl)) rfl rfl ?_
      refine wl_val (v := .int .i64 (i : Int)) (fun ρ e => ex_move (e _ _ rfl)) rfl rfl ?_
      refine wl_val (v := .int .u8 (c.toNat : Int)) (fun ρ e => ex_strIdx (i := i) (c := c) (e _ _ rfl) (e _ _ rfl) hc) rfl rfl ?_
      by_cases c151 : (c.toNat : Int) = 41
      · skip
        refine wl_val (v := .bool true) (fun ρ e => ex_cmp (u := (c.toNat : Int)) (v := 41) (e _ _ rfl) (e _ _ rfl) (eql1 (by omega))) rfl rfl ?_
        refine wl_nil ?_
        refine xw_next K150 ?_
        refine cw_true rfl ?_
        refine cw_seq (fun FK152 K152 => ?_)
        refine cw_seq (fun FK153 K153 => ?_)
        refine cw_region ?_
        refine wl_val (v := .slice Ao no co) (fun ρ e => ex_move (e _ _ rfl)) rfl rfl ?_
        refine wl_val (v := .int .i64 (no : Int)) (fun ρ e => ex_len el36 (e _ _ rfl)) rfl rfl ?_
        by_cases c154 : (no : Int) < 2
        · skip
          refine wl_val (v := .bool true) (fun ρ e => ex_cmp (u := (no : Int)) (v := 2) (e _ _ rfl) (e _ _ rfl) (lss1 (by omega))) rfl rfl ?_
          refine wl_nil ?_
          refine xw_next K153 ?_
          refine cw_true rfl ?_
          refine cw_seq (fun FK155 K155 => ?_)
          refine cw_region ?_
          refine wl_val (v := .slice none 0 0) (fun ρ e => ex_assign (e _ _ rfl)) rfl rfl ?_
          refine wl_val (v := .int .i64 5) (fun ρ e => ex_assign (e _ _ rfl)) rfl rfl ?_
          refine wl_nil ?_
          refine xw_next K155 ?_
          refine cw_ret ?_
          refine xw_past (by intro h; cases h) ?_
          refine xw_blockret ?_
          refine xw_past (by intro h; cases h) ?_
          refine xw_past (by intro h; cases h) ?_
          refine xw_blockret ?_
          refine xw_past (by intro h; cases h) ?_
          refine xw_ret (v := .tuple #[.slice none 0 0, .int .i64 5]) (fun T hT => res2 rfl T _ (hT 2 _ rfl) (hT 3 _ rfl)) ?_
          have hp : rparseOf s.data.toList = ([], 5) := rparse_none (hsc.trans (scanR_few hnd (by omega) (by omega)))
          rw [hp]
          have O156 := O11.nilrow 38 3
          exact ⟨none, 0, rfl, O156.re [0] rfl⟩
        · skip
          have hnco := row_cap (O11.row 1 rfl)
          obtain ⟨go, hgo⟩ := rowaddr (O11.row 1 rfl) (show 0 < no by omega)
          subst hgo
          obtain ⟨u1, hu1⟩ : ∃ u, o[no - 2]? = some u := ⟨_, List.getElem?_eq_getElem (show no - 2 < o.length by omega)⟩
          obtain ⟨u2, hu2⟩ : ∃ u, o[no - 1]? = some u := ⟨_, List.getElem?_eq_getElem (show no - 1 < o.length by omega)⟩
          refine wl_val (v := .bool false) (fun ρ e => ex_cmp (u := (no : Int)) (v := 2) (e _ _ rfl) (e _ _ rfl) (lss0 (by omega))) rfl rfl ?_
          refine wl_nil ?_
          refine xw_next K153 ?_
          refine cw_false rfl ?_
          refine cw_skip ?_
          refine xw_next K152 ?_
          refine cw_seq (fun FK157 K157 => ?_)
          refine cw_drawn (fun X => Own Z0 W X [.row (.slice (some ⟨go, 0, none⟩) no co) 3 1 no (intCs o)]) 16 [(0, 1), (1, 1), (2, 1), (3, 1), (4, 1), (5, 1), (6, 0), (7, 1), (8, 1), (9, 1), (10, 1), (11, 1), (12, 0), (13, 1), (14, 2), (15, 2), (16, 3)] (by kernel_rfl) (by kernel_rfl) (PQ.then_ (PQ.block (PQ.then_ (PQ.then_ (PQ.block (PQ.then_ PQ.body)))))) ((O11.re [1] rfl : Own Z0 W w8 [.row (.slice (some ⟨go, 0, none⟩) no co) 3 1 no (intCs o)])).drew ?_
          have O158 : Own Z0 W w8.drew [.row (.slice At nt ct) 38 3 nt (ncells t), .row (.slice (some ⟨go, 0, none⟩) no co) 3 1 no (intCs o)] := O11.drew
          refine wt1 (v := .slice At nt ct) rfl (fun ρ e W => ex_move (e _ _ rfl)) rfl rfl ?_
          refine wt1 (v := .slice (some ⟨go, 0, none⟩) no co) rfl (fun ρ e W => ex_move (e _ _ rfl)) rfl rfl ?_
          refine wt1 (v := .slice (some ⟨go, 0, none⟩) no co) rfl (fun ρ e W => ex_move (e _ _ rfl)) rfl rfl ?_
          refine wt1 (v := .int .i64 (no : Int)) rfl (fun ρ e W => ex_len el36 (e _ _ rfl)) rfl rfl ?_
          refine wt1 (v := .int .i64 ((no - 2 : Nat) : Int)) rfl (fun ρ e W => ex_arith (k := .i64) (u := (no : Int)) (v := 2) (e _ _ rfl) (e _ _ rfl) (congrArg some ((congrArg _ (show _ = ((no - 2 : Nat) : Int) by omega)).trans (wrap_in (by omega) (by omega))))) rfl rfl ?_
          refine wt1 (v := .pointer (some ⟨go, (no - 2), none⟩)) rfl (fun ρ e W => ex_idx (q := (no - 2)) (i := no - 2) el36 (e _ _ rfl) (e _ _ rfl) (by omega) (by omega)) rfl rfl ?_
          refine wt0 (v := .int .i64 u1) rfl (fun ρ e W hW => ex_load1 ty3 (e _ _ rfl) (rowcell (hW.row 0 rfl) (intCs_get hu1))) rfl rfl ?_
          refine wt1 (v := .slice (some ⟨go, 0, none⟩) no co) rfl (fun ρ e W => ex_move (e _ _ rfl)) rfl rfl ?_
          refine wt1 (v := .slice (some ⟨go, 0, none⟩) no co) rfl (fun ρ e W => ex_move (e _ _ rfl)) rfl rfl ?_
          refine wt1 (v := .int .i64 (no : Int)) rfl (fun ρ e W => ex_len el36 (e _ _ rfl)) rfl rfl ?_
          refine wt1 (v := .int .i64 ((no - 1 : Nat) : Int)) rfl (fun ρ e W => ex_arith (k := .i64) (u := (no : Int)) (v := 1) (e _ _ rfl) (e _ _ rfl) (congrArg some ((congrArg _ (show _ = ((no - 1 : Nat) : Int) by omega)).trans (wrap_in (by omega) (by omega))))) rfl rfl ?_
          refine wt1 (v := .pointer (some ⟨go, (no - 1), none⟩)) rfl (fun ρ e W => ex_idx (q := (no - 1)) (i := no - 1) el36 (e _ _ rfl) (e _ _ rfl) (by omega) (by omega)) rfl rfl ?_
          refine wt0 (v := .int .i64 u2) rfl (fun ρ e W hW => ex_load1 ty3 (e _ _ rfl) (rowcell (hW.row 0 rfl) (intCs_get hu2))) rfl rfl ?_
          refine wt1 (v := .agg #[.int .i64 u1, .int .i64 u2, .int .i64 0]) rfl (fun ρ e W => ex_build (cells := #[.int .i64 u1, .int .i64 u2, .int .i64 0]) st38 (e.parts rfl) rfl) rfl rfl ?_
          obtain ⟨g159, w160, r161, O162, hg163, hs164⟩ := own_slice O158 el23 ze38 1 [(0, .agg #[.int .i64 u1, .int .i64 u2, .int .i64 0])] (cs := #[.int .i64 u1, .int .i64 u2, .int .i64 0]) (by decide) (by kernel_rfl)
          refine wt2 (v := .slice (some ⟨g159, 0, none⟩) 1 1) rfl (fun ρ e => r161 ρ _ _ _ _ _ _ (e.parts rfl)) rfl rfl (O162.re [2] rfl : Own Z0 W w160 [.row (.slice (some ⟨go, 0, none⟩) no co) 3 1 no (intCs o)]) ?_
          obtain ⟨A165, c166, w167, r168, O169, hz170, hc171⟩ := own_app1 (O162.re [1, 0, 2] rfl : Own Z0 W w160 [.row (.slice At nt ct) 38 3 nt (ncells t), .blk g159 38 #[.int .i64 u1, .int .i64 u2, .int .i64 0], .row (.slice (some ⟨go, 0, none⟩) no co) 3 1 no (intCs o)]) ap23 ((O162.re [1, 0, 2] rfl : Own Z0 W w160 [.row (.slice At nt ct) 38 3 nt (ncells t), .blk g159 38 #[.int .i64 u1, .int .i64 u2, .int .i64 0], .row (.slice (some ⟨go, 0, none⟩) no co) 3 1 no (intCs o)]).blk 1 rfl) (cells := [.int .i64 u1, .int .i64 u2, .int .i64 0]) rfl rfl (by omega) (by omega) (ys := (ncells (t ++ [(VN.mk u1 u2 0)]))) (ncells_snoc t (VN.mk u1 u2 0))
          refine wt2 (v := .slice A165 (nt + 1) c166) rfl (fun ρ e => r168 ρ _ _ _ _ _ _ _ (e _ _ rfl) (e _ _ rfl)) rfl rfl (O169.re [2] rfl : Own Z0 W w167 [.row (.slice (some ⟨go, 0, none⟩) no co) 3 1 no (intCs o)]) ?_
          refine wt3 (v := .slice A165 (nt + 1) c166) rfl (fun ρ e => ex_assign (e _ _ rfl)) rfl rfl ?_
          refine wt_nil ?_
          refine xw_next K157 ?_
          refine cw_region ?_
          refine wl_val (v := .slice (some ⟨go, 0, none⟩) no co) (fun ρ e => ex_move (e _ _ rfl)) rfl rfl ?_
          refine wl_val (v := .slice (some ⟨go, 0, none⟩) no co) (fun ρ e => ex_move (e _ _ rfl)) rfl rfl ?_
          refine wl_val (v := .int .i64 (no : Int)) (fun ρ e => ex_len el36 (e _ _ rfl)) rfl rfl ?_
          refine wl_val (v := .int .i64 ((no - 2 : Nat) : Int)) (fun ρ e => ex_arith (k := .i64) (u := (no : Int)) (v := 2) (e _ _ rfl) (e _ _ rfl) (congrArg some ((congrArg _ (show _ = ((no - 2 : Nat) : Int) by omega)).trans (wrap_in (by omega) (by omega))))) rfl rfl ?_
          refine wl_val (v := .slice (some ⟨go, 0, none⟩) (no - 2) co) (fun ρ e => ex_sliceHi (h := no - 2) el36 (e _ _ rfl) (e _ _ rfl) (by omega)) rfl rfl ?_
          refine wl_val (v := .slice A165 (nt + 1) c166) (fun ρ e => ex_move (e _ _ rfl)) rfl rfl ?_
          refine wl_val (v := .int .i64 ((nt + 1 : Nat) : Int)) (fun ρ e => ex_len el23 (e _ _ rfl)) rfl rfl ?_
          refine wl_val (v := .int .i64 (nt : Int)) (fun ρ e => ex_arith (k := .i64) (u := ((nt + 1 : Nat) : Int)) (v := 1) (e _ _ rfl) (e _ _ rfl) (congrArg some ((congrArg _ (show _ = (nt : Int) by omega)).trans (wrap_in (by omega) (by omega))))) rfl rfl ?_
          obtain ⟨g172, w173, r174, O175, hg176, hs177⟩ := own_slice O169 el36 ze3 1 [(0, .int .i64 (nt : Int))] (cs := #[.int .i64 (nt : Int)]) (by decide) (by kernel_rfl)
          refine wl_val (v := .slice (some ⟨g172, 0, none⟩) 1 1) (fun ρ e => r174 ρ _ _ _ _ _ _ (e.parts rfl)) rfl rfl ?_
          have O178 := own_cutrow (l := o) (k := no - 2) (O175.re [3, 0, 1, 2] rfl : Own Z0 W w173 [.row (.slice (some ⟨go, 0, none⟩) no co) 3 1 no (intCs o), .blk g172 3 #[.int .i64 (nt : Int)], .row (.slice A165 (nt + 1) c166) 38 3 (nt + 1) (ncells (t ++ [(VN.mk u1 u2 0)])), .blk g159 38 #[.int .i64 u1, .int .i64 u2, .int .i64 0]]) (by omega)
          obtain ⟨A179, c180, w181, r182, O183, hz184, hc185⟩ := own_app1 O178 ap36 (O178.blk 1 rfl) (cells := [.int .i64 (nt : Int)]) rfl rfl (by omega) (by omega) (ys := (intCs ((o.take (no - 2)) ++ [(nt : Int)]))) (by simp [intCs])
          refine wl_val (v := .slice A179 (no - 2 + 1) c180) (fun ρ e => r182 ρ _ _ _ _ _ _ _ (e _ _ rfl) (e _ _ rfl)) rfl rfl ?_
          refine wl_val (v := .slice A179 (no - 2 + 1) c180) (fun ρ e => ex_assign (e _ _ rfl)) rfl rfl ?_
          refine wl_nil ?_
          refine xw_block ?_
          refine xw_next K14 ?_
          refine cw_region ?_
          refine wl_val (v := .int .i64 (i : Int)) (fun ρ e => ex_move (e _ _ rfl)) rfl rfl ?_
          refine wl_val (v := .int .i64 ((i + 1 : Nat) : Int)) (fun ρ e => ex_arith (k := .i64) (u := (i : Int)) (v := 1) (e _ _ rfl) (e _ _ rfl) (congrArg some ((congrArg _ (by omega)).trans (wrap_in (u := ((i + 1 : Nat) : Int)) (by omega) (by omega))))) rfl rfl ?_
          refine wl_val (v := .int .i64 ((i + 1 : Nat) : Int)) (fun ρ e => ex_assign (e _ _ rfl)) rfl rfl ?_
          refine wl_nil ?_
          refine xw_round K10 (i + 1, f, A165, c166, nt + 1, (t ++ [VN.mk u1 u2 0]), A179, c180, (no - 2 + 1), (o.take (no - 2) ++ [(nt : Int)])) (by show s.size - (i + 1) < s.size - i; omega) ⟨(by show i + 1 ≤ s.size; omega), (by show s.size < i + 1 + f; omega), (by show scanR _ _ [] [] = scanR f _ (t ++ [_]) _; rw [hnt, hno, hsc]; exact scanR_close hnd (by omega) (by omega) (hno ▸ hu1) (hno ▸ hu2)), (by show nt + 1 = (t ++ [_]).length; simp [hnt]), (by show nt + 1 ≤ i + 1; omega), (by show no - 2 + 1 = (o.take _ ++ [_]).length; simp [List.length_take]; omega), (by show no - 2 + 1 ≤ i + 1; omega), (O183.re [2, 0] rfl : Own Z0 W w181 [.row (.slice A165 (nt + 1) c166) 38 3 (nt + 1) (ncells (t ++ [(VN.mk u1 u2 0)])), .row (.slice A179 (no - 2 + 1) c180) 3 1 (no - 2 + 1) (intCs ((o.take (no - 2)) ++ [(nt : Int)]))])⟩ ⟨rfl, rfl, rfl, rfl, trivial⟩
      · skip
        refine wl_val (v := .bool false) (fun ρ e => ex_cmp (u := (c.toNat : Int)) (v := 41) (e _ _ rfl) (e _ _ rfl) (eql0 (by omega))) rfl rfl ?_
        refine wl_nil ?_
        refine xw_next K150 ?_
        refine cw_false rfl ?_
        refine cw_skip ?_
        refine xw_block ?_
        refine xw_next K14 ?_
        refine cw_region ?_
        refine wl_val (v := .int .i64 (i : Int)) (fun ρ e => ex_move (e _ _ rfl)) rfl rfl ?_
        refine wl_val (v := .int .i64 ((i + 1 : Nat) : Int)) (fun ρ e => ex_arith (k := .i64) (u := (i : Int)) (v := 1) (e _ _ rfl) (e _ _ rfl) (congrArg some ((congrArg _ (by omega)).trans (wrap_in (u := ((i + 1 : Nat) : Int)) (by omega) (by omega))))) rfl rfl ?_
        refine wl_val (v := .int .i64 ((i + 1 : Nat) : Int)) (fun ρ e => ex_assign (e _ _ rfl)) rfl rfl ?_
        refine wl_nil ?_
        refine xw_round K10 (i + 1, f, At, ct, nt, t, Ao, co, no, o) (by show s.size - (i + 1) < s.size - i; omega) ⟨(by show i + 1 ≤ s.size; omega), (by show s.size < i + 1 + f; omega), (by show scanR _ _ [] [] = scanR f _ _ _; rw [hsc]; exact scanR_skip hnd (by omega)), hnt, (by show nt ≤ i + 1; omega), hno, (by show no ≤ i + 1; omega), O11⟩ ⟨rfl, rfl, rfl, rfl, trivial⟩
  · have hie : i = s.size := by omega
    obtain ⟨f, rfl⟩ : ∃ m, f = m + 1 := ⟨f - 1, by omega⟩
    rw [List.drop_eq_nil_of_le (show s.data.toList.length ≤ i by rw [hsl]; omega)] at hsc
    have hsc2 : scanR (s.data.toList.length + 1) s.data.toList [] [] = some t := hsc
    refine cw_seq (fun FK186 K186 => ?_)
    refine cw_seq (fun FK187 K187 => ?_)
    refine cw_region ?_
    refine wl_val (v := .int .i64 (i : Int)) (fun ρ e => ex_move (e _ _ rfl)) rfl rfl ?_
    refine wl_val (v := .string s) (fun ρ e => ex_move (e _ _ rfl)) rfl rfl ?_
    refine wl_val (v := .int .i64 ((s.size : Nat) : Int)) (fun ρ e => ex_lenstr (e _ _ rfl)) rfl rfl ?_
    refine wl_val (v := .bool false) (fun ρ e => ex_cmp (u := (i : Int)) (v := ((s.size : Nat) : Int)) (e _ _ rfl) (e _ _ rfl) (lss0 (by omega))) rfl rfl ?_
    refine wl_nil ?_
    refine xw_next K187 ?_
    refine cw_false rfl ?_
    refine cw_exit ?_
    refine xw_past (by intro h; cases h) ?_
    refine xw_past (by intro h; cases h) ?_
    refine xw_here ?_
    refine xw_next K4 ?_
    refine cw_seq (fun FK188 K188 => ?_)
    refine cw_region ?_
    refine wl_val (v := .slice At nt ct) (fun ρ e => ex_move (e _ _ rfl)) rfl rfl ?_
    refine wl_call (args := [.slice At nt ct]) in_40 rfl rfl rfl ?_
    refine (rprint_ (NodesD.of_row (O11.row 0 rfl)) (fun k hk => (World.ownsRow.lt (O11.row 0 rfl) k hk).2) (by omega)).mono ?_
    rintro _ w189 ⟨rfl, hb190⟩
    have O191 : Own Z0 W w189 [.row (.slice At nt ct) 38 3 nt (ncells t), .row (.slice Ao no co) 3 1 no (intCs o)] := O11.below hb190
    refine ⟨_, rfl, ?_⟩
    refine wl_val (v := .tuple #[.string (⟨(printOf t).toArray⟩), .int .i64 (chkV t)]) (fun ρ e => ex_move (e _ _ rfl)) rfl rfl ?_
    refine wl_val (v := .string (⟨(printOf t).toArray⟩)) (fun ρ e => ex_extract (vs := #[.string (⟨(printOf t).toArray⟩), .int .i64 (chkV t)]) (e _ _ rfl) rfl) rfl rfl ?_
    refine wl_val (v := .int .i64 (chkV t)) (fun ρ e => ex_extract (vs := #[.string (⟨(printOf t).toArray⟩), .int .i64 (chkV t)]) (e _ _ rfl) rfl) rfl rfl ?_
    refine wl_val (v := .string (⟨(printOf t).toArray⟩)) (fun ρ e => ex_assign (e _ _ rfl)) rfl rfl ?_
    refine wl_val (v := .int .i64 (chkV t)) (fun ρ e => ex_assign (e _ _ rfl)) rfl rfl ?_
    refine wl_nil ?_
    refine xw_next K188 ?_
    refine cw_seq (fun FK192 K192 => ?_)
    refine cw_seq (fun FK193 K193 => ?_)
    refine cw_region ?_
    refine wl_val (v := .int .i64 (chkV t)) (fun ρ e => ex_move (e _ _ rfl)) rfl rfl ?_
    by_cases c194 : (chkV t) ≠ 0
    · skip
      refine wl_val (v := .bool true) (fun ρ e => ex_cmp (u := (chkV t)) (v := 0) (e _ _ rfl) (e _ _ rfl) (neq1 (by omega))) rfl rfl ?_
      refine wl_val (v := .bool true) (fun ρ e => ex_move (e _ _ rfl)) rfl rfl ?_
      refine wl_skip rfl rfl ?_
      refine wl_skip rfl rfl ?_
      refine wl_skip rfl rfl ?_
      refine wl_val (v := .bool true) (fun ρ e => ex_pick1 (e _ _ rfl) (e _ _ rfl)) rfl rfl ?_
      refine wl_nil ?_
      refine xw_next K193 ?_
      refine cw_true rfl ?_
      refine cw_seq (fun FK195 K195 => ?_)
      refine cw_region ?_
      refine wl_val (v := .slice none 0 0) (fun ρ e => ex_assign (e _ _ rfl)) rfl rfl ?_
      refine wl_val (v := .int .i64 5) (fun ρ e => ex_assign (e _ _ rfl)) rfl rfl ?_
      refine wl_nil ?_
      refine xw_next K195 ?_
      refine cw_ret ?_
      refine xw_past (by intro h; cases h) ?_
      refine xw_ret (v := .tuple #[.slice none 0 0, .int .i64 5]) (fun T hT => res2 rfl T _ (hT 2 _ rfl) (hT 3 _ rfl)) ?_
      have hp : rparseOf s.data.toList = ([], 5) := (rparse_out hsc2).trans (by rw [chk_no (by omega)]; rfl)
      rw [hp]
      have O196 := O191.nilrow 38 3
      exact ⟨none, 0, rfl, O196.re [0] rfl⟩
    · skip
      refine wl_val (v := .bool false) (fun ρ e => ex_cmp (u := (chkV t)) (v := 0) (e _ _ rfl) (e _ _ rfl) (neq0 (by omega))) rfl rfl ?_
      refine wl_val (v := .bool false) (fun ρ e => ex_move (e _ _ rfl)) rfl rfl ?_
      refine wl_val (v := .string (⟨(printOf t).toArray⟩)) (fun ρ e => ex_move (e _ _ rfl)) rfl rfl ?_
      refine wl_val (v := .string s) (fun ρ e => ex_move (e _ _ rfl)) rfl rfl ?_
      by_cases c197 : ⟨(printOf t).toArray⟩ = s
      · skip
        refine wl_val (v := .bool false) (fun ρ e => ex_neS (a := ⟨(printOf t).toArray⟩) (b := s) (e _ _ rfl) (e _ _ rfl) (by rw [decide_eq_true c197]; rfl)) rfl rfl ?_
        refine wl_val (v := .bool false) (fun ρ e => ex_pick0 (e _ _ rfl) (e _ _ rfl)) rfl rfl ?_
        refine wl_nil ?_
        refine xw_next K193 ?_
        refine cw_false rfl ?_
        refine cw_skip ?_
        refine xw_next K192 ?_
        refine cw_seq (fun FK198 K198 => ?_)
        refine cw_region ?_
        refine wl_val (v := .slice At nt ct) (fun ρ e => ex_move (e _ _ rfl)) rfl rfl ?_
        refine wl_val (v := .slice At nt ct) (fun ρ e => ex_assign (e _ _ rfl)) rfl rfl ?_
        refine wl_val (v := .int .i64 0) (fun ρ e => ex_assign (e _ _ rfl)) rfl rfl ?_
        refine wl_nil ?_
        refine xw_next K198 ?_
        refine cw_ret ?_
        refine xw_ret (v := .tuple #[.slice At nt ct, .int .i64 0]) (fun T hT => res2 rfl T _ (hT 2 _ rfl) (hT 3 _ rfl)) ?_
        have hp : rparseOf s.data.toList = (t, 0) := (rparse_out hsc2).trans (by rw [if_pos (by simp only [Bool.and_eq_true, decide_eq_true_eq]; exact ⟨chk_ok (by omega), ba_to c197⟩)])
        rw [hp]
        have hO := (O191.re [0] rfl : Own Z0 W w189 [.row (.slice At nt ct) 38 3 nt (ncells t)])
        rw [hnt] at hO
        exact ⟨At, ct, by rw [hnt], hO⟩
      · skip
        refine wl_val (v := .bool true) (fun ρ e => ex_neS (a := ⟨(printOf t).toArray⟩) (b := s) (e _ _ rfl) (e _ _ rfl) (by rw [decide_eq_false c197]; rfl)) rfl rfl ?_
        refine wl_val (v := .bool true) (fun ρ e => ex_pick0 (e _ _ rfl) (e _ _ rfl)) rfl rfl ?_
        refine wl_nil ?_
        refine xw_next K193 ?_
        refine cw_true rfl ?_
        refine cw_seq (fun FK200 K200 => ?_)
        refine cw_region ?_
        refine wl_val (v := .slice none 0 0) (fun ρ e => ex_assign (e _ _ rfl)) rfl rfl ?_
        refine wl_val (v := .int .i64 5) (fun ρ e => ex_assign (e _ _ rfl)) rfl rfl ?_
        refine wl_nil ?_
        refine xw_next K200 ?_
        refine cw_ret ?_
        refine xw_past (by intro h; cases h) ?_
        refine xw_ret (v := .tuple #[.slice none 0 0, .int .i64 5]) (fun T hT => res2 rfl T _ (hT 2 _ rfl) (hT 3 _ rfl)) ?_
        have hp : rparseOf s.data.toList = ([], 5) := (rparse_out hsc2).trans (by rw [if_neg (by simp only [Bool.and_eq_true, decide_eq_true_eq]; rintro ⟨_, q⟩; exact c197 (ba_of q))])
        rw [hp]
        have O201 := O191.nilrow 38 3
        exact ⟨none, 0, rfl, O201.re [0] rfl⟩
theorem rparse_ {W : World} (s : ByteArray) (hsz : s.size ≤ 100000) : Calls Tryd.prog 18 #[.string s] W fun e w' => ∃ A' c', e = .returned (.tuple #[.slice A' (parseOf s.data.toList).1.length c', .int .i64 (parseOf s.data.toList).2]) ∧ Own Z0 W w' [.row (.slice A' (parseOf s.data.toList).1.length c') 38 3 (parseOf s.data.toList).1.length (ncells (parseOf s.data.toList).1)] := by
  rw [← rparse_eq]
  exact rparse0 s hsz
end Go.Proofs.YtpeoodkepjhhiaaDoor
namespace Go.Proofs.YtpeoodkepjhhiaaDoor
open Go Go.RowKit
theorem vtreeReads_ok {W : World} (s : ByteArray) (tab : Tab W) : Calls Tryd.prog 4 #[.string s] W fun e w' => e = .returned (.bool true) ∧ Below W.heap.size W w' := by
  have O0 : Own Z0 W W [] := Own.start W
  refine sx_enter (args := [.string s]) Tryd.func4 rfl rfl (by simp) ?_
  refine cw_seq (fun FK1 K1 => ?_)
  refine cw_region ?_
  refine wl_val (v := .bool false) (fun ρ e => ex_assign (e _ _ rfl)) rfl rfl ?_
  refine wl_nil ?_
  refine xw_next K1 ?_
  refine cw_seq (fun FK2 K2 => ?_)
  refine cw_seq (fun FK3 K3 => ?_)
  refine cw_region ?_
  refine wl_val (v := .string s) (fun ρ e => ex_move (e _ _ rfl)) rfl rfl ?_
  refine wl_val (v := .int .i64 ((s.size : Nat) : Int)) (fun ρ e => ex_lenstr (e _ _ rfl)) rfl rfl ?_
  by_cases c4 : ((s.size : Nat) : Int) > 2000
  · skip
    refine wl_val (v := .bool true) (fun ρ e => ex_cmp (u := ((s.size : Nat) : Int)) (v := 2000) (e _ _ rfl) (e _ _ rfl) (gtr1 (by omega))) rfl rfl ?_
    refine wl_nil ?_
    refine xw_next K3 ?_
    refine cw_true rfl ?_
    refine cw_seq (fun FK5 K5 => ?_)
    refine cw_region ?_
    refine wl_call (args := []) in_14 rfl rfl rfl ?_
    refine (works_ (tab.below (Nat.le_refl _) O0.old)).mono ?_
    rintro _ w6 ⟨rfl, hb7⟩
    have O8 : Own Z0 W w6 [] := O0.below hb7
    refine ⟨_, rfl, ?_⟩
    refine wl_val (v := .bool true) (fun ρ e => ex_assign (e _ _ rfl)) rfl rfl ?_
    refine wl_nil ?_
    refine xw_next K5 ?_
    refine cw_ret ?_
    refine xw_past (by intro h; cases h) ?_
    refine xw_ret (v := .bool true) (fun T hT => res1 rfl T _ (hT 2 _ rfl)) ?_
    exact ⟨rfl, O8.old⟩
  · skip
    refine wl_val (v := .bool false) (fun ρ e => ex_cmp (u := ((s.size : Nat) : Int)) (v := 2000) (e _ _ rfl) (e _ _ rfl) (gtr0 (by omega))) rfl rfl ?_
    refine wl_nil ?_
    refine xw_next K3 ?_
    refine cw_false rfl ?_
    refine cw_skip ?_
    refine xw_next K2 ?_
    refine cw_seq (fun FK9 K9 => ?_)
    refine cw_region ?_
    refine wl_val (v := .string s) (fun ρ e => ex_move (e _ _ rfl)) rfl rfl ?_
    refine wl_call (args := [.string s]) in_17 rfl rfl rfl ?_
    refine (parse_ s (tab.below (Nat.le_refl _) O0.old)).mono ?_
    rintro _ w12 ⟨A10, c11, rfl, h13⟩
    have O14 := O0.join1 h13 trivial
    refine ⟨_, rfl, ?_⟩
    refine wl_val (v := .tuple #[.slice A10 ((parseOf s.data.toList).1.length) c11, .int .i64 ((parseOf s.data.toList).2)]) (fun ρ e => ex_move (e _ _ rfl)) rfl rfl ?_
    refine wl_val (v := .slice A10 ((parseOf s.data.toList).1.length) c11) (fun ρ e => ex_extract (vs := #[.slice A10 ((parseOf s.data.toList).1.length) c11, .int .i64 ((parseOf s.data.toList).2)]) (e _ _ rfl) rfl) rfl rfl ?_
    refine wl_val (v := .int .i64 ((parseOf s.data.toList).2)) (fun ρ e => ex_extract (vs := #[.slice A10 ((parseOf s.data.toList).1.length) c11, .int .i64 ((parseOf s.data.toList).2)]) (e _ _ rfl) rfl) rfl rfl ?_
    refine wl_val (v := .slice A10 ((parseOf s.data.toList).1.length) c11) (fun ρ e => ex_assign (e _ _ rfl)) rfl rfl ?_
    refine wl_val (v := .int .i64 ((parseOf s.data.toList).2)) (fun ρ e => ex_assign (e _ _ rfl)) rfl rfl ?_
    refine wl_nil ?_
    refine xw_next K9 ?_
    refine cw_seq (fun FK15 K15 => ?_)
    refine cw_region ?_
    refine wl_val (v := .string s) (fun ρ e => ex_move (e _ _ rfl)) rfl rfl ?_
    refine wl_call (args := [.string s]) in_18 rfl rfl rfl ?_
    refine (rparse_ s (by omega)).mono ?_
    rintro _ w18 ⟨A16, c17, rfl, h19⟩
    have O20 := O14.join1 h19 trivial
    refine ⟨_, rfl, ?_⟩
    refine wl_val (v := .tuple #[.slice A16 ((parseOf s.data.toList).1.length) c17, .int .i64 ((parseOf s.data.toList).2)]) (fun ρ e => ex_move (e _ _ rfl)) rfl rfl ?_
    refine wl_val (v := .slice A16 ((parseOf s.data.toList).1.length) c17) (fun ρ e => ex_extract (vs := #[.slice A16 ((parseOf s.data.toList).1.length) c17, .int .i64 ((parseOf s.data.toList).2)]) (e _ _ rfl) rfl) rfl rfl ?_
    refine wl_val (v := .int .i64 ((parseOf s.data.toList).2)) (fun ρ e => ex_extract (vs := #[.slice A16 ((parseOf s.data.toList).1.length) c17, .int .i64 ((parseOf s.data.toList).2)]) (e _ _ rfl) rfl) rfl rfl ?_
    refine wl_val (v := .slice A16 ((parseOf s.data.toList).1.length) c17) (fun ρ e => ex_assign (e _ _ rfl)) rfl rfl ?_
    refine wl_val (v := .int .i64 ((parseOf s.data.toList).2)) (fun ρ e => ex_assign (e _ _ rfl)) rfl rfl ?_
    refine wl_nil ?_
    refine xw_next K15 ?_
    refine cw_seq (fun FK21 K21 => ?_)
    refine cw_region ?_
    refine wl_val (v := .slice A10 ((parseOf s.data.toList).1.length) c11) (fun ρ e => ex_move (e _ _ rfl)) rfl rfl ?_
    refine wl_val (v := .int .i64 ((parseOf s.data.toList).2)) (fun ρ e => ex_move (e _ _ rfl)) rfl rfl ?_
    refine wl_val (v := .slice A16 ((parseOf s.data.toList).1.length) c17) (fun ρ e => ex_move (e _ _ rfl)) rfl rfl ?_
    refine wl_val (v := .int .i64 ((parseOf s.data.toList).2)) (fun ρ e => ex_move (e _ _ rfl)) rfl rfl ?_
    refine wl_call (args := [.slice A10 ((parseOf s.data.toList).1.length) c11, .int .i64 ((parseOf s.data.toList).2), .slice A16 ((parseOf s.data.toList).1.length) c17, .int .i64 ((parseOf s.data.toList).2)]) in_19 rfl rfl rfl ?_
    refine (equal_ (NodesD.of_row (O20.row 1 rfl)) (fun k hk => (World.ownsRow.lt (O20.row 1 rfl) k hk).2) (NodesD.of_row (O20.row 0 rfl)) (fun k hk => (World.ownsRow.lt (O20.row 0 rfl) k hk).2) ((parseOf s.data.toList).2)).mono ?_
    rintro _ w22 ⟨rfl, hb23⟩
    have O24 : Own Z0 W w22 [.row (.slice A16 ((parseOf s.data.toList).1.length) c17) 38 3 ((parseOf s.data.toList).1.length) (ncells (parseOf s.data.toList).1), .row (.slice A10 ((parseOf s.data.toList).1.length) c11) 38 3 ((parseOf s.data.toList).1.length) (ncells (parseOf s.data.toList).1)] := O20.below hb23
    refine ⟨_, rfl, ?_⟩
    refine wl_val (v := .bool true) (fun ρ e => ex_move (e _ _ rfl)) rfl rfl ?_
    refine wl_call (args := []) in_14 rfl rfl rfl ?_
    refine (works_ (tab.below (Nat.le_refl _) O24.old)).mono ?_
    rintro _ w25 ⟨rfl, hb26⟩
    have O27 : Own Z0 W w25 [.row (.slice A16 ((parseOf s.data.toList).1.length) c17) 38 3 ((parseOf s.data.toList).1.length) (ncells (parseOf s.data.toList).1), .row (.slice A10 ((parseOf s.data.toList).1.length) c11) 38 3 ((parseOf s.data.toList).1.length) (ncells (parseOf s.data.toList).1)] := O24.below hb26
    refine ⟨_, rfl, ?_⟩
    refine wl_val (v := .bool true) (fun ρ e => ex_pick1 (e _ _ rfl) (e _ _ rfl)) rfl rfl ?_
    refine wl_val (v := .bool true) (fun ρ e => ex_assign (e _ _ rfl)) rfl rfl ?_
    refine wl_nil ?_
    refine xw_next K21 ?_
    refine cw_ret ?_
    refine xw_ret (v := .bool true) (fun T hT => res1 rfl T _ (hT 2 _ rfl)) ?_
    exact ⟨rfl, O27.old⟩
end Go.Proofs.YtpeoodkepjhhiaaDoor
