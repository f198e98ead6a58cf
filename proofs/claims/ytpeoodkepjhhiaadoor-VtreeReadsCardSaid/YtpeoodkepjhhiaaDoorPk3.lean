/-
  Lemmas and contracts, joined: Vbs Vbld Vchk Vtr Vta Vtx Vprint.
-/
import Derived.Test.YtpeoodkepjhhiaaDoorPk2
import Derived.Lib.AppendStr
import Derived.Lib.ItoaNum
namespace Go.Proofs.YtpeoodkepjhhiaaDoor
open Go Go.RowKit
section
variable {Z : Bool → Nat → Prop} {w0 w : World} {L : List En}
theorem own_app_str {v : Value} {n : Nat} {l : List UInt8} {s : ByteArray} (hO : Own Z w0 w (.row v 5 1 n (Lib.byteCells l) :: L)) (hlim : n + s.size ≤ 1000000000) (h0 : 0 < s.size) :
    ∃ A c w', (∀ (ρ : Operand → Value) x y d t pos aft gd, ρ x = v → ρ y = .string s → (execOp ρ ⟨d, .call ⟨.builtin .append, #[x, y], #[32, 9]⟩, t, pos, aft, gd⟩).run Tryd.prog w = .ok (.value (.slice A (n + s.size) c)) w') ∧
      Own Z w0 w' (.row (.slice A (n + s.size) c) 5 1 (n + s.size) (Lib.byteCells (l ++ s.data.toList)) :: L) := by
  have hX : (Tryd.prog.info? 5).map (fun i => (i.zero, i.size, i.bytes)) = some (some (.int .u8 0), 1, 1) := by kernel_rfl
  obtain ⟨i, hi, hz, hs, hb⟩ := info_parts hX
  have hrow := hO.row 0 rfl
  have key : ∀ ty, ∃ v' w', (Builtin.append_ #[32, 9] ty #[v, .string s]).run Tryd.prog w = .ok v' w' ∧ w'.ownsRow 0 5 1 v' (n + s.size) (Lib.byteCells l ++ Lib.strCells s) ∧ w.grownBy w' v.ownBlock ∧ (v'.ownBlock = v.ownBlock ∨ v'.ownBlock = some w.heap.size) := by
    intro ty
    obtain ⟨v', w', h1, h2, h3, _⟩ := Lib.run_append_own_string (P := Tryd.prog) (w := w) 0 32 9 ty 5 i Tryd.underlying32 Tryd.underlying9 hi hz hs hb v n _ hrow s (by unfold maxLen; omega) (by omega) (Nat.zero_le _)
    refine ⟨v', w', h1, h2, h3, ?_⟩
    rcases hrow.2 with ⟨rfl, h4⟩ | ⟨g, cap, cur, rfl, _, hg, hnc, hcm, hcs, htake⟩
    · have hr := run_append_nil_string (P := Tryd.prog) w 32 9 ty 5 i (.int .u8 0) Tryd.underlying32 Tryd.underlying9 hi hz s (by omega) (by omega) (by rw [hb]; omega)
      rw [h1] at hr
      injection hr with hr _
      subst hr
      exact .inr rfl
    · by_cases hroom : n + s.size ≤ cap
      · have hr := Lib.run_append_room_string (P := Tryd.prog) w 32 9 ty 5 i Tryd.underlying32 Tryd.underlying9 hi hs g n cap cur hg s hroom (by omega)
        rw [h1] at hr
        injection hr with hr _
        subst hr
        exact .inl rfl
      · have hl1 : (Lib.byteCells l).length = n := by simpa using hrow.1
        have hr := Lib.run_append_grow_string (P := Tryd.prog) w 32 9 ty 5 i (.int .u8 0) Tryd.underlying32 Tryd.underlying9 hi hz ⟨g, 0, none⟩ n cap (Lib.byteCells l) (by rw [hs]; omega) (fun j u hu => by
            rw [addr_plus, Nat.zero_add]
            exact rowcell hrow hu) s (by omega) (by omega) (by rw [hb]; exact growslice_fits (by omega) (by omega))
        rw [h1] at hr
        injection hr with hr _
        subst hr
        exact .inr rfl
  obtain ⟨v', w', h1, h2, h3, h4⟩ := key 0
  obtain ⟨A, c, rfl⟩ := own_form h2
  have e : Lib.byteCells l ++ Lib.strCells s = Lib.byteCells (l ++ s.data.toList) := by simp [Lib.byteCells, Lib.strCells]
  rw [e] at h2
  refine ⟨A, c, w', fun ρ x y d t pos aft gd hx hy => ?_, hO.app h2 (.grown h3) h4⟩
  have hty : Builtin.append_ #[32, 9] t #[v, .string s] = Builtin.append_ #[32, 9] 0 #[v, .string s] := rfl
  unfold execOp
  simp only [resolve, invoke, builtin, Sem.run_bind, Sem.run_pure, Result.andThen_ok, List.map_toArray, List.map_cons, List.map_nil, hx, hy, hty, h1]
end
end Go.Proofs.YtpeoodkepjhhiaaDoor
namespace Go.Proofs.YtpeoodkepjhhiaaDoor
open Go Go.RowKit
theorem ex_lenstr {ρ : Operand → Value} {d : Option Tmp} {x : Operand} {t : TypeId} {pos : String} {aft : Array Edge} {gd : Option (Nat × Bool)} {w : World} {s : ByteArray} (hx : ρ x = .string s) : (execOp ρ ⟨d, .call ⟨.builtin .len, #[x], #[9]⟩, t, pos, aft, gd⟩).run Tryd.prog w = .ok (.value (.int .i64 ((s.size : Nat) : Int))) w := by
  simp [go_sem, hx]
theorem wbyte_ {Z : Bool → Nat → Prop} {w0 W : World} {b n c : Nat} {A : Option Addr} {used : Bool} {l : List UInt8} (c1 : UInt8) (O0 : Own Z w0 W [.blk b 82 #[addrB used b, .slice A n c], .row (.slice A n c) 5 1 n (Lib.byteCells l)]) (hlim : n ≤ 1000000000) :
    Calls Tryd.prog 69 #[.pointer (some ⟨b, 0, none⟩), .int .u8 (c1.toNat : Int)] W fun e w' => ∃ A' c', e = .returned .nilIface ∧ Own Z w0 w' [.blk b 82 #[.pointer (some ⟨b, 0, none⟩), .slice A' (n + 1) c'], .row (.slice A' (n + 1) c') 5 1 (n + 1) (Lib.byteCells (l ++ [c1]))] := by
  refine sx_enter (args := [.pointer (some ⟨b, 0, none⟩), .int .u8 (c1.toNat : Int)]) Tryd.func69 rfl rfl (by simp) ?_
  refine cw_seq (fun FK1 K1 => ?_)
  refine cw_region ?_
  refine wl_val (v := .nilIface) (fun ρ e => ex_assign (e _ _ rfl)) rfl rfl ?_
  refine wl_nil ?_
  refine xw_next K1 ?_
  refine cw_seq (fun FK2 K2 => ?_)
  refine cw_region ?_
  refine wl_val (v := .pointer (some ⟨b, 0, none⟩)) (fun ρ e => ex_move (e _ _ rfl)) rfl rfl ?_
  refine wl_call (args := [.pointer (some ⟨b, 0, none⟩)]) in_81 rfl rfl rfl ?_
  have O5h := Own.hand (A := [.blk b 82 #[addrB used b, .slice A n c]]) (R := [.row (.slice A n c) 5 1 n (Lib.byteCells l)]) O0
  refine (copycheck_ (used := used) (bv := .slice A n c) O5h).mono ?_
  rintro _ w3 ⟨rfl, h4⟩
  have O5 : Own Z w0 w3 [.blk b 82 #[.pointer (some ⟨b, 0, none⟩), .slice A n c], .row (.slice A n c) 5 1 n (Lib.byteCells l)] := Own.frame (A := [.blk b 82 #[addrB used b, .slice A n c]]) (R := [.row (.slice A n c) 5 1 n (Lib.byteCells l)]) O0 h4
  refine ⟨_, rfl, ?_⟩
  refine wl_nil ?_
  refine xw_next K2 ?_
  refine cw_seq (fun FK6 K6 => ?_)
  refine cw_region ?_
  refine wl_val (v := .pointer (some ⟨b, 0, none⟩)) (fun ρ e => ex_move (e _ _ rfl)) rfl rfl ?_
  refine wl_val (v := .pointer (some ⟨b, 0, none⟩)) (fun ρ e => ex_move (e _ _ rfl)) rfl rfl ?_
  refine wl_val (v := .pointer (some ⟨b, 0, none⟩)) (fun ρ e => ex_nil (e _ _ rfl)) rfl rfl ?_
  refine wl_val (v := .pointer (some ⟨b, 1, none⟩)) (fun ρ e => ex_field (q := 1) fi82_1 (e _ _ rfl) rfl) rfl rfl ?_
  refine wl_val (v := .slice A n c) (fun ρ e => ex_load1 ty32 (e _ _ rfl) (O5.cell 0 1 rfl rfl)) rfl rfl ?_
  refine wl_val (v := .int .u8 (c1.toNat : Int)) (fun ρ e => ex_move (e _ _ rfl)) rfl rfl ?_
  obtain ⟨g7, w8, r9, O10, hg11, hs12⟩ := own_slice O5 el32 ze5 1 [(0, .int .u8 (c1.toNat : Int))] (cs := #[.int .u8 (c1.toNat : Int)]) (by decide) (by kernel_rfl)
  refine wl_val (v := .slice (some ⟨g7, 0, none⟩) 1 1) (fun ρ e => r9 ρ _ _ _ _ _ _ (e.parts rfl)) rfl rfl ?_
  obtain ⟨A13, c14, w15, r16, O17, hz18, hc19⟩ := own_app1 (O10.re [2, 0, 1] rfl : Own Z w0 w8 [.row (.slice A n c) 5 1 n (Lib.byteCells l), .blk g7 5 #[.int .u8 (c1.toNat : Int)], .blk b 82 #[.pointer (some ⟨b, 0, none⟩), .slice A n c]]) ap32 ((O10.re [2, 0, 1] rfl : Own Z w0 w8 [.row (.slice A n c) 5 1 n (Lib.byteCells l), .blk g7 5 #[.int .u8 (c1.toNat : Int)], .blk b 82 #[.pointer (some ⟨b, 0, none⟩), .slice A n c]]).blk 1 rfl) (cells := [.int .u8 (c1.toNat : Int)]) rfl rfl (by omega) (by omega) (ys := (Lib.byteCells (l ++ [c1]))) (by simp [Lib.byteCells])
  refine wl_val (v := .slice A13 (n + 1) c14) (fun ρ e => r16 ρ _ _ _ _ _ _ _ (e _ _ rfl) (e _ _ rfl)) rfl rfl ?_
  refine wl_val (v := .pointer (some ⟨b, 0, none⟩)) (fun ρ e => ex_nil (e _ _ rfl)) rfl rfl ?_
  refine wl_val (v := .pointer (some ⟨b, 1, none⟩)) (fun ρ e => ex_field (q := 1) fi82_1 (e _ _ rfl) rfl) rfl rfl ?_
  obtain ⟨w20, r21, O22, hs23⟩ := own_put (o := 1) (n := 1) (O17.re [2, 0, 1] rfl : Own Z w0 w15 [.blk b 82 #[.pointer (some ⟨b, 0, none⟩), .slice A n c], .row (.slice A13 (n + 1) c14) 5 1 (n + 1) (Lib.byteCells (l ++ [c1])), .blk g7 5 #[.int .u8 (c1.toNat : Int)]]) ty32 (.slice A13 (n + 1) c14) [.slice A13 (n + 1) c14] (cs' := #[.pointer (some ⟨b, 0, none⟩), .slice A13 (n + 1) c14]) rfl rfl rfl (Nat.le_of_ble_eq_true rfl) rfl
  refine wl_none (fun ρ e => r21 ρ _ _ _ _ _ _ (e _ _ rfl) (e _ _ rfl)) rfl ?_
  refine wl_nil ?_
  refine xw_next K6 ?_
  refine cw_seq (fun FK24 K24 => ?_)
  refine cw_region ?_
  refine wl_val (v := .nilIface) (fun ρ e => ex_assign (e _ _ rfl)) rfl rfl ?_
  refine wl_nil ?_
  refine xw_next K24 ?_
  refine cw_ret ?_
  refine xw_ret (v := .nilIface) (fun T hT => res1 rfl T _ (hT 4 _ rfl)) ?_
  exact ⟨A13, c14, rfl, (O22.re [0, 1] rfl : Own Z w0 w20 [.blk b 82 #[.pointer (some ⟨b, 0, none⟩), .slice A13 (n + 1) c14], .row (.slice A13 (n + 1) c14) 5 1 (n + 1) (Lib.byteCells (l ++ [c1]))])⟩
theorem wstr_ {Z : Bool → Nat → Prop} {w0 W : World} {b n c : Nat} {A : Option Addr} {used : Bool} {l : List UInt8} (ss : ByteArray) (O0 : Own Z w0 W [.blk b 82 #[addrB used b, .slice A n c], .row (.slice A n c) 5 1 n (Lib.byteCells l)]) (hlim : n + ss.size ≤ 1000000000) (hss : 0 < ss.size) :
    Calls Tryd.prog 67 #[.pointer (some ⟨b, 0, none⟩), .string ss] W fun e w' => ∃ A' c', e = .returned (.tuple #[.int .i64 ((ss.size : Nat) : Int), .nilIface]) ∧ Own Z w0 w' [.blk b 82 #[.pointer (some ⟨b, 0, none⟩), .slice A' (n + ss.size) c'], .row (.slice A' (n + ss.size) c') 5 1 (n + ss.size) (Lib.byteCells (l ++ ss.data.toList))] := by
  refine sx_enter (args := [.pointer (some ⟨b, 0, none⟩), .string ss]) Tryd.func67 rfl rfl (by simp) ?_
  refine cw_seq (fun FK1 K1 => ?_)
  refine cw_region ?_
  refine wl_val (v := .int .i64 0) (fun ρ e => ex_assign (e _ _ rfl)) rfl rfl ?_
  refine wl_val (v := .nilIface) (fun ρ e => ex_assign (e _ _ rfl)) rfl rfl ?_
  refine wl_nil ?_
  refine xw_next K1 ?_
  refine cw_seq (fun FK2 K2 => ?_)
  refine cw_region ?_
  refine wl_val (v := .pointer (some ⟨b, 0, none⟩)) (fun ρ e => ex_move (e _ _ rfl)) rfl rfl ?_
  refine wl_call (args := [.pointer (some ⟨b, 0, none⟩)]) in_81 rfl rfl rfl ?_
  have O5h := Own.hand (A := [.blk b 82 #[addrB used b, .slice A n c]]) (R := [.row (.slice A n c) 5 1 n (Lib.byteCells l)]) O0
  refine (copycheck_ (used := used) (bv := .slice A n c) O5h).mono ?_
  rintro _ w3 ⟨rfl, h4⟩
  have O5 : Own Z w0 w3 [.blk b 82 #[.pointer (some ⟨b, 0, none⟩), .slice A n c], .row (.slice A n c) 5 1 n (Lib.byteCells l)] := Own.frame (A := [.blk b 82 #[addrB used b, .slice A n c]]) (R := [.row (.slice A n c) 5 1 n (Lib.byteCells l)]) O0 h4
  refine ⟨_, rfl, ?_⟩
  refine wl_nil ?_
  refine xw_next K2 ?_
  refine cw_seq (fun FK6 K6 => ?_)
  refine cw_region ?_
  refine wl_val (v := .pointer (some ⟨b, 0, none⟩)) (fun ρ e => ex_move (e _ _ rfl)) rfl rfl ?_
  refine wl_val (v := .pointer (some ⟨b, 0, none⟩)) (fun ρ e => ex_move (e _ _ rfl)) rfl rfl ?_
  refine wl_val (v := .pointer (some ⟨b, 0, none⟩)) (fun ρ e => ex_nil (e _ _ rfl)) rfl rfl ?_
  refine wl_val (v := .pointer (some ⟨b, 1, none⟩)) (fun ρ e => ex_field (q := 1) fi82_1 (e _ _ rfl) rfl) rfl rfl ?_
  refine wl_val (v := .slice A n c) (fun ρ e => ex_load1 ty32 (e _ _ rfl) (O5.cell 0 1 rfl rfl)) rfl rfl ?_
  refine wl_val (v := .string ss) (fun ρ e => ex_move (e _ _ rfl)) rfl rfl ?_
  obtain ⟨A7, c8, w9, r10, O11⟩ := own_app_str (s := ss) (O5.re [1, 0] rfl : Own Z w0 w3 [.row (.slice A n c) 5 1 n (Lib.byteCells l), .blk b 82 #[.pointer (some ⟨b, 0, none⟩), .slice A n c]]) hlim hss
  refine wl_val (v := .slice A7 (n + ss.size) c8) (fun ρ e => r10 ρ _ _ _ _ _ _ _ (e _ _ rfl) (e _ _ rfl)) rfl rfl ?_
  refine wl_val (v := .pointer (some ⟨b, 0, none⟩)) (fun ρ e => ex_nil (e _ _ rfl)) rfl rfl ?_
  refine wl_val (v := .pointer (some ⟨b, 1, none⟩)) (fun ρ e => ex_field (q := 1) fi82_1 (e _ _ rfl) rfl) rfl rfl ?_
  obtain ⟨w12, r13, O14, hs15⟩ := own_put (o := 1) (n := 1) (O11.re [1, 0] rfl : Own Z w0 w9 [.blk b 82 #[.pointer (some ⟨b, 0, none⟩), .slice A n c], .row (.slice A7 (n + ss.size) c8) 5 1 (n + ss.size) (Lib.byteCells (l ++ ss.data.toList))]) ty32 (.slice A7 (n + ss.size) c8) [.slice A7 (n + ss.size) c8] (cs' := #[.pointer (some ⟨b, 0, none⟩), .slice A7 (n + ss.size) c8]) rfl rfl rfl (Nat.le_of_ble_eq_true rfl) rfl
  refine wl_none (fun ρ e => r13 ρ _ _ _ _ _ _ (e _ _ rfl) (e _ _ rfl)) rfl ?_
  refine wl_nil ?_
  refine xw_next K6 ?_
  refine cw_seq (fun FK16 K16 => ?_)
  refine cw_region ?_
  refine wl_val (v := .string ss) (fun ρ e => ex_move (e _ _ rfl)) rfl rfl ?_
  refine wl_val (v := .int .i64 ((ss.size : Nat) : Int)) (fun ρ e => ex_lenstr (e _ _ rfl)) rfl rfl ?_
  refine wl_val (v := .int .i64 ((ss.size : Nat) : Int)) (fun ρ e => ex_assign (e _ _ rfl)) rfl rfl ?_
  refine wl_val (v := .nilIface) (fun ρ e => ex_assign (e _ _ rfl)) rfl rfl ?_
  refine wl_nil ?_
  refine xw_next K16 ?_
  refine cw_ret ?_
  refine xw_ret (v := .tuple #[.int .i64 ((ss.size : Nat) : Int), .nilIface]) (fun T hT => res2 rfl T _ (hT 4 _ rfl) (hT 5 _ rfl)) ?_
  exact ⟨A7, c8, rfl, O14⟩
end Go.Proofs.YtpeoodkepjhhiaaDoor
namespace Go.Proofs.YtpeoodkepjhhiaaDoor
open Go Go.RowKit
theorem take_more {α : Type} {l : List α} {k : Nat} {x : α} (h : l[k]? = some x) : l.take (k + 1) = l.take k ++ [x] := by
  obtain ⟨hk, rfl⟩ := List.getElem?_eq_some_iff.1 h
  exact (List.take_append_getElem hk).symm
section
variable {l : List VN} {xl xr xv : Int}
theorem preV_var (hx : lf ⟨xl, xr, xv⟩ = false) (hv : xv ≠ 0) : preB (l ++ [⟨xl, xr, xv⟩]) = false := pre_var hx hv
theorem preV_l (hx : lf ⟨xl, xr, xv⟩ = false) (hl : xl < 0 ∨ (l.length : Int) ≤ xl ∨ xl ∈ kidsL l) : preB (l ++ [⟨xl, xr, xv⟩]) = false := pre_l hx hl
theorem preV_r (hx : lf ⟨xl, xr, xv⟩ = false) (hr : xr < 0 ∨ (l.length : Int) ≤ xr ∨ xr ∈ kidsL l ++ [xl]) : preB (l ++ [⟨xl, xr, xv⟩]) = false := pre_r hx hr
theorem preV_in (h : preB l = true) (hx : lf ⟨xl, xr, xv⟩ = false) (hv : xv = 0) (h1 : 0 ≤ xl) (h2 : xl < l.length) (h3 : xl ∉ kidsL l) (h4 : 0 ≤ xr) (h5 : xr < l.length) (h6 : xr ∉ kidsL l ++ [xl]) : preB (l ++ [⟨xl, xr, xv⟩]) = true := pre_in h hx hv h1 h2 h3 h4 h5 h6
end
def chkV (ts : List VN) : Int := if okT ts then 0 else 1
theorem not_ok {ts : List VN} (k : Nat) (h : preB (ts.take k) = false) : okT ts = false := by
  rw [Bool.eq_false_iff]; intro q
  rw [preB_take (okT_parts.1 q).2.2.1 k] at h; cases h
theorem not_ok_len {ts : List VN} (h : ts.length = 0 ∨ 255 < ts.length) : okT ts = false := by
  rw [Bool.eq_false_iff]; intro q
  obtain ⟨h1, h2, _⟩ := okT_parts.1 q
  omega
theorem cover_iff (ts : List VN) : coverB ts = true ↔ ∀ k, k < ts.length - 1 → (k : Int) ∈ kidsL ts := by
  unfold coverB
  simp
theorem check_ {W : World} {D : Nat → Prop} {V : Value} {ts : List VN} (hN : NodesD D W V ts) (hD : ∀ k, D k → k < W.heap.size) :
    Calls Tryd.prog 23 #[V] W fun e w' => e = .returned (.int .i64 (chkV ts)) ∧ Below W.heap.size W w' := by
  obtain ⟨A, c, rfl⟩ := hN.slice
  rcases Nat.eq_zero_or_pos ts.length with h0 | h0
  · skip
    have O0 : Own Z0 W W [] := Own.start W
    refine sx_enter (args := [.slice A ts.length c]) Tryd.func23 rfl rfl (by simp) ?_
    refine cw_seq (fun FK1 K1 => ?_)
    refine cw_region ?_
    refine wl_val (v := .int .i64 0) (fun ρ e => ex_assign (e _ _ rfl)) rfl rfl ?_
    refine wl_nil ?_
    refine xw_next K1 ?_
    refine cw_seq (fun FK2 K2 => ?_)
    refine cw_seq (fun FK3 K3 => ?_)
    refine cw_region ?_
    refine wl_val (v := .slice A ts.length c) (fun ρ e => ex_move (e _ _ rfl)) rfl rfl ?_
    refine wl_val (v := .int .i64 ((ts.length : Nat) : Int)) (fun ρ e => ex_len el23 (e _ _ rfl)) rfl rfl ?_
    refine wl_val (v := .bool true) (fun ρ e => ex_cmp (u := ((ts.length : Nat) : Int)) (v := 0) (e _ _ rfl) (e _ _ rfl) (eql1 (by omega))) rfl rfl ?_
    refine wl_val (v := .bool true) (fun ρ e => ex_move (e _ _ rfl)) rfl rfl ?_
    refine wl_skip rfl rfl ?_
    refine wl_skip rfl rfl ?_
    refine wl_skip rfl rfl ?_
    refine wl_val (v := .bool true) (fun ρ e => ex_pick1 (e _ _ rfl) (e _ _ rfl)) rfl rfl ?_
    refine wl_nil ?_
    refine xw_next K3 ?_
    refine cw_true rfl ?_
    refine cw_seq (fun FK4 K4 => ?_)
    refine cw_region ?_
    refine wl_val (v := .int .i64 1) (fun ρ e => ex_assign (e _ _ rfl)) rfl rfl ?_
    refine wl_nil ?_
    refine xw_next K4 ?_
    refine cw_ret ?_
    refine xw_past (by intro h; cases h) ?_
    refine xw_ret (v := .int .i64 1) (fun T hT => res1 rfl T _ (hT 2 _ rfl)) ?_
    exact ⟨by unfold chkV; rw [not_ok_len (by omega)]; rfl, O0.old⟩
  · obtain ⟨b, o, c', hv, hDb⟩ := hN.form h0
    injection hv with hA _ hc
    subst hA hc
    have O0 : Own Z0 W W [.ro D (fun w => NodesD D w (.slice (some ⟨b, o, none⟩) ts.length c) ts)] := (Own.start W).oldro (D := D) (p := (fun w => NodesD D w (.slice (some ⟨b, o, none⟩) ts.length c) ts)) (nodesE_holds hN hD)
    refine sx_enter (args := [.slice (some ⟨b, o, none⟩) ts.length c]) Tryd.func23 rfl rfl (by simp) ?_
    refine cw_seq (fun FK5 K5 => ?_)
    refine cw_region ?_
    refine wl_val (v := .int .i64 0) (fun ρ e => ex_assign (e _ _ rfl)) rfl rfl ?_
    refine wl_nil ?_
    refine xw_next K5 ?_
    refine cw_seq (fun FK6 K6 => ?_)
    refine cw_seq (fun FK7 K7 => ?_)
    refine cw_region ?_
    refine wl_val (v := .slice (some ⟨b, o, none⟩) ts.length c) (fun ρ e => ex_move (e _ _ rfl)) rfl rfl ?_
    refine wl_val (v := .int .i64 ((ts.length : Nat) : Int)) (fun ρ e => ex_len el23 (e _ _ rfl)) rfl rfl ?_
    refine wl_val (v := .bool false) (fun ρ e => ex_cmp (u := ((ts.length : Nat) : Int)) (v := 0) (e _ _ rfl) (e _ _ rfl) (eql0 (by omega))) rfl rfl ?_
    refine wl_val (v := .bool false) (fun ρ e => ex_move (e _ _ rfl)) rfl rfl ?_
    refine wl_val (v := .slice (some ⟨b, o, none⟩) ts.length c) (fun ρ e => ex_move (e _ _ rfl)) rfl rfl ?_
    refine wl_val (v := .int .i64 ((ts.length : Nat) : Int)) (fun ρ e => ex_len el23 (e _ _ rfl)) rfl rfl ?_
    by_cases c8 : ((ts.length : Nat) : Int) > 255
    · skip
      refine wl_val (v := .bool true) (fun ρ e => ex_cmp (u := ((ts.length : Nat) : Int)) (v := 255) (e _ _ rfl) (e _ _ rfl) (gtr1 (by omega))) rfl rfl ?_
      refine wl_val (v := .bool true) (fun ρ e => ex_pick0 (e _ _ rfl) (e _ _ rfl)) rfl rfl ?_
      refine wl_nil ?_
      refine xw_next K7 ?_
      refine cw_true rfl ?_
      refine cw_seq (fun FK9 K9 => ?_)
      refine cw_region ?_
      refine wl_val (v := .int .i64 1) (fun ρ e => ex_assign (e _ _ rfl)) rfl rfl ?_
      refine wl_nil ?_
      refine xw_next K9 ?_
      refine cw_ret ?_
      refine xw_past (by intro h; cases h) ?_
      refine xw_ret (v := .int .i64 1) (fun T hT => res1 rfl T _ (hT 2 _ rfl)) ?_
      exact ⟨by unfold chkV; rw [not_ok_len (by omega)]; rfl, O0.old⟩
    · skip
      refine wl_val (v := .bool false) (fun ρ e => ex_cmp (u := ((ts.length : Nat) : Int)) (v := 255) (e _ _ rfl) (e _ _ rfl) (gtr0 (by omega))) rfl rfl ?_
      refine wl_val (v := .bool false) (fun ρ e => ex_pick0 (e _ _ rfl) (e _ _ rfl)) rfl rfl ?_
      refine wl_nil ?_
      refine xw_next K7 ?_
      refine cw_false rfl ?_
      refine cw_skip ?_
      refine xw_next K6 ?_
      refine cw_seq (fun FK10 K10 => ?_)
      refine cw_region ?_
      obtain ⟨g11, w12, r13, O14, hg15, hs16⟩ := own_alloc O0 70 ze70 (cs := (boolCs (flagL 129 [])).toArray) (by rw [flagL_nil]; simp [boolCs, Value.cells])
      refine wl_val (v := .pointer (some ⟨g11, 0, none⟩)) (fun ρ e => r13 ρ _ _ _ _ _) rfl rfl ?_
      refine wl_nil ?_
      refine xw_next K10 ?_
      refine cw_seq (fun FK17 K17 => ?_)
      refine cw_region ?_
      refine wl_val (v := .slice (some ⟨b, o, none⟩) ts.length c) (fun ρ e => ex_move (e _ _ rfl)) rfl rfl ?_
      refine wl_val (v := .int .i64 ((ts.length : Nat) : Int)) (fun ρ e => ex_len el23 (e _ _ rfl)) rfl rfl ?_
      obtain ⟨g18, w19, r20, O21, hg22, hs23⟩ := own_make1 O14 ap71 rfl ts.length (by decide) (by omega) (cs := (boolCs (flagL ts.length [])).toArray) (by rw [flagL_nil]; simp [boolCs])
      refine wl_val (v := .slice (some ⟨g18, 0, none⟩) ts.length ts.length) (fun ρ e => r20 ρ _ _ _ _ _ _ _ (e _ _ rfl) (e _ _ rfl)) rfl rfl ?_
      refine wl_val (v := .slice (some ⟨g18, 0, none⟩) ts.length ts.length) (fun ρ e => ex_assign (e _ _ rfl)) rfl rfl ?_
      refine wl_nil ?_
      refine xw_next K17 ?_
      refine cw_seq (fun FK24 K24 => ?_)
      refine cw_seq (fun FK25 K25 => ?_)
      refine cw_region ?_
      refine wl_val (v := .slice (some ⟨b, o, none⟩) ts.length c) (fun ρ e => ex_move (e _ _ rfl)) rfl rfl ?_
      refine wl_val (v := .int .i64 ((ts.length : Nat) : Int)) (fun ρ e => ex_len el23 (e _ _ rfl)) rfl rfl ?_
      refine wl_val (v := .int .i64 0) (fun ρ e => ex_move (e _ _ rfl)) rfl rfl ?_
      refine wl_nil ?_
      refine xw_next K25 ?_
      refine cw_block ?_
      have O26 : Own Z0 W w19 [.blk g11 70 ((boolCs (flagL 129 [])).toArray), .blk g18 4 ((boolCs (flagL ts.length [])).toArray), .ro D (fun w => NodesD D w (.slice (some ⟨b, o, none⟩) ts.length c) ts)] := (O21.re [1, 0, 2] rfl : Own Z0 W w19 [.blk g11 70 ((boolCs (flagL 129 [])).toArray), .blk g18 4 ((boolCs (flagL ts.length [])).toArray), .ro D (fun w => NodesD D w (.slice (some ⟨b, o, none⟩) ts.length c) ts)])
      refine cw_loop (ι := Nat) (fun q => [(0, .slice (some ⟨b, o, none⟩) ts.length c), (3, .pointer (some ⟨g11, 0, none⟩)), (4, .slice (some ⟨g18, 0, none⟩) ts.length ts.length), (22, .slice (some ⟨b, o, none⟩) ts.length c), (23, .int .i64 ((ts.length : Nat) : Int)), (24, .int .i64 (q : Int))]) (fun q X => (q ≤ ts.length) ∧ (preB (ts.take q) = true) ∧ Own Z0 W X [.blk g11 70 ((boolCs (flagL 129 (varsL (ts.take q)))).toArray), .blk g18 4 ((boolCs (flagL ts.length (kidsL (ts.take q)))).toArray), .ro D (fun w => NodesD D w (.slice (some ⟨b, o, none⟩) ts.length c) ts)]) (fun q => ts.length - q) 0 ⟨Nat.zero_le _, (by rw [List.take_zero]; rfl), O26⟩ ⟨rfl, rfl, rfl, rfl, rfl, rfl, trivial⟩ (fun q w27 hJ F28 K29 => ?_)
      obtain ⟨i, rfl⟩ : ∃ x, x = q := ⟨_, rfl⟩
      obtain ⟨hi0, hp, O30⟩ := hJ
      try dsimp only at hi0 hp O30 ⊢
      by_cases hi : i < ts.length
      · skip
        obtain ⟨⟨xl, xr, xv⟩, hx⟩ : ∃ x, ts[i]? = some x := ⟨ts[i], List.getElem?_eq_getElem hi⟩
        have htk : ts.take (i + 1) = ts.take i ++ [⟨xl, xr, xv⟩] := take_more hx
        have hlen : (ts.take i).length = i := by rw [List.length_take]; omega
        refine cw_seq (fun FK31 K31 => ?_)
        refine cw_region ?_
        refine wl_val (v := .bool true) (fun ρ e => ex_cmp (u := (i : Int)) (v := ((ts.length : Nat) : Int)) (e _ _ rfl) (e _ _ rfl) (lss1 (by omega))) rfl rfl ?_
        refine wl_nil ?_
        refine xw_next K31 ?_
        refine cw_seq (fun FK32 K32 => ?_)
        refine cw_true rfl ?_
        refine cw_skip ?_
        refine xw_next K32 ?_
        refine cw_seq (fun FK33 K33 => ?_)
        refine cw_block ?_
        refine cw_seq (fun FK34 K34 => ?_)
        refine cw_region ?_
        refine wl_val (v := .int .i64 (i : Int)) (fun ρ e => ex_move (e _ _ rfl)) rfl rfl ?_
        refine wl_val (v := .pointer (some ⟨b, o + i * 3, none⟩)) (fun ρ e => ex_idx (q := o + i * 3) (i := i) el23 (e _ _ rfl) (e _ _ rfl) (by omega) (by omega)) rfl rfl ?_
        refine wl_val (v := .agg #[.int .i64 xl, .int .i64 xr, .int .i64 xv]) (fun ρ e => ex_loadN (vs := [.int .i64 xl, .int .i64 xr, .int .i64 xv]) ty38 (e _ _ rfl) rfl (cells3 (NodesD.c0 ((O30.ro 2 rfl : (fun w => NodesD D w (.slice (some ⟨b, o, none⟩) ts.length c) ts) _) : NodesD _ _ _ _) hx) (NodesD.c1 ((O30.ro 2 rfl : (fun w => NodesD D w (.slice (some ⟨b, o, none⟩) ts.length c) ts) _) : NodesD _ _ _ _) hx) (NodesD.c2 ((O30.ro 2 rfl : (fun w => NodesD D w (.slice (some ⟨b, o, none⟩) ts.length c) ts) _) : NodesD _ _ _ _) hx))) rfl rfl ?_
        obtain ⟨g35, w36, r37, O38, hg39, hs40⟩ := own_alloc O30 38 ze38 rfl
        refine wl_val (v := .pointer (some ⟨g35, 0, none⟩)) (fun ρ e => r37 ρ _ _ _ _ _) rfl rfl ?_
        refine wl_val (v := .int .i64 (i : Int)) (fun ρ e => ex_assign (e _ _ rfl)) rfl rfl ?_
        obtain ⟨w41, r42, O43, hs44⟩ := own_put (o := 0) (n := 3) O38 ty38 (.agg #[.int .i64 xl, .int .i64 xr, .int .i64 xv]) [.int .i64 xl, .int .i64 xr, .int .i64 xv] (cs' := #[.int .i64 xl, .int .i64 xr, .int .i64 xv]) rfl rfl rfl (Nat.le_of_ble_eq_true rfl) rfl
        refine wl_none (fun ρ e => r42 ρ _ _ _ _ _ _ (e _ _ rfl) (e _ _ rfl)) rfl ?_
        refine wl_nil ?_
        refine xw_next K34 ?_
        refine cw_seq (fun FK45 K45 => ?_)
        refine cw_seq (fun FK46 K46 => ?_)
        refine cw_region ?_
        refine wl_val (v := .agg #[.int .i64 xl, .int .i64 xr, .int .i64 xv]) (fun ρ e => ex_loadN (vs := [.int .i64 xl, .int .i64 xr, .int .i64 xv]) ty38 (e _ _ rfl) rfl (O43.cells 0 0 rfl rfl)) rfl rfl ?_
        refine wl_call (args := [.agg #[.int .i64 xl, .int .i64 xr, .int .i64 xv]]) in_53 rfl rfl rfl ?_
        refine (isleaf_ (VN.mk xl xr xv) (W := w41)).mono ?_
        rintro _ w47 ⟨rfl, hb48⟩
        have O49 : Own Z0 W w47 [.blk g35 38 #[.int .i64 xl, .int .i64 xr, .int .i64 xv], .blk g11 70 ((boolCs (flagL 129 (varsL (ts.take i)))).toArray), .blk g18 4 ((boolCs (flagL ts.length (kidsL (ts.take i)))).toArray), .ro D (fun w => NodesD D w (.slice (some ⟨b, o, none⟩) ts.length c) ts)] := O43.below hb48
        refine ⟨_, rfl, ?_⟩
        refine wl_nil ?_
        refine xw_next K46 ?_
        refine cw_cond (b := (lf (VN.mk xl xr xv))) rfl (fun c50 => ?_) (fun c50 => ?_)
        · skip
          obtain ⟨_, _, hv1, hv2⟩ := (lf_iff _).1 c50
          dsimp only at hv1 hv2
          obtain ⟨v, rfl⟩ : ∃ n : Nat, xv = n := ⟨xv.toNat, by omega⟩
          refine cw_seq (fun FK51 K51 => ?_)
          refine cw_seq (fun FK52 K52 => ?_)
          refine cw_region ?_
          refine wl_val (v := .pointer (some ⟨g35, 2, none⟩)) (fun ρ e => ex_field (q := 2) fi38_2 (e _ _ rfl) rfl) rfl rfl ?_
          refine wl_val (v := .int .i64 (v : Int)) (fun ρ e => ex_load1 ty3 (e _ _ rfl) (O49.cell 0 2 rfl rfl)) rfl rfl ?_
          refine wl_val (v := .pointer (some ⟨g11, v, none⟩)) (fun ρ e => ex_idxA (q := v) (i := v) an70 (e _ _ rfl) (e _ _ rfl) (by omega) (by omega)) rfl rfl ?_
          refine wl_val (v := .bool (decide ((v : Int) ∈ (varsL (ts.take i))))) (fun ρ e => ex_load1 ty4 (e _ _ rfl) (O49.cell 1 v rfl (getBo (flagL_get (varsL (ts.take i)) (by omega))))) rfl rfl ?_
          refine wl_nil ?_
          refine xw_next K52 ?_
          refine cw_cond (b := (decide ((v : Int) ∈ (varsL (ts.take i))))) rfl (fun c53 => ?_) (fun c53 => ?_)
          · skip
            refine cw_seq (fun FK54 K54 => ?_)
            refine cw_region ?_
            refine wl_val (v := .int .i64 1) (fun ρ e => ex_assign (e _ _ rfl)) rfl rfl ?_
            refine wl_nil ?_
            refine xw_next K54 ?_
            refine cw_ret ?_
            refine xw_past (by intro h; cases h) ?_
            refine xw_past (by intro h; cases h) ?_
            refine xw_blockret ?_
            refine xw_past (by intro h; cases h) ?_
            refine xw_past (by intro h; cases h) ?_
            refine xw_blockret ?_
            refine xw_past (by intro h; cases h) ?_
            refine xw_ret (v := .int .i64 1) (fun T hT => res1 rfl T _ (hT 2 _ rfl)) ?_
            have hno : okT ts = false := not_ok (i + 1) (by rw [htk]; exact (pre_leaf hp c50).trans (by rw [c53]; rfl))
            exact ⟨by unfold chkV; rw [hno]; rfl, O49.old⟩
          · skip
            refine cw_skip ?_
            refine xw_next K51 ?_
            refine cw_seq (fun FK55 K55 => ?_)
            refine cw_region ?_
            refine wl_val (v := .pointer (some ⟨g35, 2, none⟩)) (fun ρ e => ex_field (q := 2) fi38_2 (e _ _ rfl) rfl) rfl rfl ?_
            refine wl_val (v := .int .i64 (v : Int)) (fun ρ e => ex_load1 ty3 (e _ _ rfl) (O49.cell 0 2 rfl rfl)) rfl rfl ?_
            refine wl_val (v := .pointer (some ⟨g11, v, none⟩)) (fun ρ e => ex_idxA (q := v) (i := v) an70 (e _ _ rfl) (e _ _ rfl) (by omega) (by omega)) rfl rfl ?_
            obtain ⟨w56, r57, O58, hs59⟩ := own_put (o := v) (n := 1) (O49.re [1, 0, 2, 3] rfl : Own Z0 W w47 [.blk g11 70 ((boolCs (flagL 129 (varsL (ts.take i)))).toArray), .blk g35 38 #[.int .i64 xl, .int .i64 xr, .int .i64 (v : Int)], .blk g18 4 ((boolCs (flagL ts.length (kidsL (ts.take i)))).toArray), .ro D (fun w => NodesD D w (.slice (some ⟨b, o, none⟩) ts.length c) ts)]) ty4 (.bool true) [.bool true] (cs' := (boolCs (flagL 129 ((varsL (ts.take i)) ++ [(v : Int)]))).toArray) rfl rfl rfl (by simp [boolCs, flagL_len] <;> omega) ((setBo _ v true).trans (congrArg (fun z => (boolCs z).toArray) (flagL_set 129 v (varsL (ts.take i)))))
            refine wl_none (fun ρ e => r57 ρ _ _ _ _ _ _ (e _ _ rfl) (e _ _ rfl)) rfl ?_
            refine wl_nil ?_
            refine xw_next K55 ?_
            refine cw_exit ?_
            refine xw_past (by intro h; cases h) ?_
            refine xw_here ?_
            refine xw_next K33 ?_
            refine cw_region ?_
            refine wl_val (v := .int .i64 ((i + 1 : Nat) : Int)) (fun ρ e => ex_arith (k := .i64) (u := (i : Int)) (v := 1) (e _ _ rfl) (e _ _ rfl) (congrArg some ((congrArg _ (by omega)).trans (wrap_in (u := ((i + 1 : Nat) : Int)) (by omega) (by omega))))) rfl rfl ?_
            refine wl_val (v := .int .i64 ((i + 1 : Nat) : Int)) (fun ρ e => ex_move (e _ _ rfl)) rfl rfl ?_
            refine wl_nil ?_
            have hV2 : varsL (ts.take (i + 1)) = ((varsL (ts.take i)) ++ [(v : Int)]) := by rw [htk, varsL_snoc]; simp [varOf, c50]
            have hK2 : kidsL (ts.take (i + 1)) = kidsL (ts.take i) := by rw [htk, kidsL_snoc]; simp [kidsOf, c50]
            have O60 : Own Z0 W w56 [.blk g11 70 ((boolCs (flagL 129 (varsL (ts.take (i + 1))))).toArray), .blk g18 4 ((boolCs (flagL ts.length (kidsL (ts.take (i + 1))))).toArray), .ro D (fun w => NodesD D w (.slice (some ⟨b, o, none⟩) ts.length c) ts)] := by rw [hV2, hK2]; exact (O58.re [0, 2, 3] rfl : Own Z0 W w56 [.blk g11 70 ((boolCs (flagL 129 ((varsL (ts.take i)) ++ [(v : Int)]))).toArray), .blk g18 4 ((boolCs (flagL ts.length (kidsL (ts.take i)))).toArray), .ro D (fun w => NodesD D w (.slice (some ⟨b, o, none⟩) ts.length c) ts)])
            refine xw_round K29 (i + 1) (by show ts.length - (i + 1) < ts.length - i; omega) ⟨(by show i + 1 ≤ ts.length; omega), (by show preB (ts.take (i + 1)) = true; rw [htk]; exact (pre_leaf hp c50).trans (by rw [c53]; rfl)), O60⟩ ⟨rfl, rfl, rfl, rfl, rfl, rfl, trivial⟩
        · skip
          refine cw_skip ?_
          refine xw_next K45 ?_
          refine cw_seq (fun FK61 K61 => ?_)
          refine cw_seq (fun FK62 K62 => ?_)
          refine cw_region ?_
          refine wl_val (v := .pointer (some ⟨g35, 2, none⟩)) (fun ρ e => ex_field (q := 2) fi38_2 (e _ _ rfl) rfl) rfl rfl ?_
          refine wl_val (v := .int .i64 xv) (fun ρ e => ex_load1 ty3 (e _ _ rfl) (O49.cell 0 2 rfl rfl)) rfl rfl ?_
          by_cases c63 : xv ≠ 0
          · skip
            refine wl_val (v := .bool true) (fun ρ e => ex_cmp (u := xv) (v := 0) (e _ _ rfl) (e _ _ rfl) (neq1 (by omega))) rfl rfl ?_
            refine wl_nil ?_
            refine xw_next K62 ?_
            refine cw_true rfl ?_
            refine cw_seq (fun FK64 K64 => ?_)
            refine cw_region ?_
            refine wl_val (v := .int .i64 1) (fun ρ e => ex_assign (e _ _ rfl)) rfl rfl ?_
            refine wl_nil ?_
            refine xw_next K64 ?_
            refine cw_ret ?_
            refine xw_past (by intro h; cases h) ?_
            refine xw_blockret ?_
            refine xw_past (by intro h; cases h) ?_
            refine xw_past (by intro h; cases h) ?_
            refine xw_blockret ?_
            refine xw_past (by intro h; cases h) ?_
            refine xw_ret (v := .int .i64 1) (fun T hT => res1 rfl T _ (hT 2 _ rfl)) ?_
            have hno : okT ts = false := not_ok (i + 1) (by rw [htk]; exact preV_var c50 (by omega))
            exact ⟨by unfold chkV; rw [hno]; rfl, O49.old⟩
          · skip
            refine wl_val (v := .bool false) (fun ρ e => ex_cmp (u := xv) (v := 0) (e _ _ rfl) (e _ _ rfl) (neq0 (by omega))) rfl rfl ?_
            refine wl_nil ?_
            refine xw_next K62 ?_
            refine cw_false rfl ?_
            refine cw_skip ?_
            refine xw_next K61 ?_
            refine cw_seq (fun FK65 K65 => ?_)
            refine cw_region ?_
            refine wl_val (v := .pointer (some ⟨g35, 0, none⟩)) (fun ρ e => ex_field (q := 0) fi38_0 (e _ _ rfl) rfl) rfl rfl ?_
            refine wl_val (v := .int .i64 xl) (fun ρ e => ex_load1 ty3 (e _ _ rfl) (O49.cell 0 0 rfl rfl)) rfl rfl ?_
            refine wl_val (v := .pointer (some ⟨g35, 1, none⟩)) (fun ρ e => ex_field (q := 1) fi38_1 (e _ _ rfl) rfl) rfl rfl ?_
            refine wl_val (v := .int .i64 xr) (fun ρ e => ex_load1 ty3 (e _ _ rfl) (O49.cell 0 1 rfl rfl)) rfl rfl ?_
            refine wl_val (v := .agg #[.int .i64 xl, .int .i64 xr]) (fun ρ e => ex_buildA (cells := #[.int .i64 xl, .int .i64 xr]) ar73 (e.parts rfl) rfl) rfl rfl ?_
            refine wl_val (v := .int .i64 0) (fun ρ e => ex_move (e _ _ rfl)) rfl rfl ?_
            refine wl_nil ?_
            refine xw_next K65 ?_
            refine cw_block ?_
            have O66 : Own Z0 W w47 [.blk g18 4 ((boolCs (flagL ts.length (kidsL (ts.take i)))).toArray), .blk g35 38 #[.int .i64 xl, .int .i64 xr, .int .i64 xv], .blk g11 70 ((boolCs (flagL 129 (varsL (ts.take i)))).toArray), .ro D (fun w => NodesD D w (.slice (some ⟨b, o, none⟩) ts.length c) ts)] := (O49.re [2, 0, 1, 3] rfl : Own Z0 W w47 [.blk g18 4 ((boolCs (flagL ts.length (kidsL (ts.take i)))).toArray), .blk g35 38 #[.int .i64 xl, .int .i64 xr, .int .i64 xv], .blk g11 70 ((boolCs (flagL 129 (varsL (ts.take i)))).toArray), .ro D (fun w => NodesD D w (.slice (some ⟨b, o, none⟩) ts.length c) ts)])
            refine cw_loop (ι := Nat × List Int) (fun q => [(0, .slice (some ⟨b, o, none⟩) ts.length c), (3, .pointer (some ⟨g11, 0, none⟩)), (4, .slice (some ⟨g18, 0, none⟩) ts.length ts.length), (5, .int .i64 (i : Int)), (6, .pointer (some ⟨g35, 0, none⟩)), (22, .slice (some ⟨b, o, none⟩) ts.length c), (23, .int .i64 ((ts.length : Nat) : Int)), (24, .int .i64 (i : Int)), (45, .agg #[.int .i64 xl, .int .i64 xr]), (46, .int .i64 (q.1 : Int))]) (fun q X => (q.1 ≤ 2) ∧ (q.1 = 0 → q.2 = kidsL (ts.take i)) ∧ (q.1 = 1 → q.2 = kidsL (ts.take i) ++ [xl] ∧ 0 ≤ xl ∧ xl < (i : Int) ∧ xl ∉ kidsL (ts.take i)) ∧ (q.1 = 2 → q.2 = kidsL (ts.take i) ++ [xl, xr] ∧ 0 ≤ xl ∧ xl < (i : Int) ∧ xl ∉ kidsL (ts.take i) ∧ 0 ≤ xr ∧ xr < (i : Int) ∧ xr ∉ kidsL (ts.take i) ++ [xl]) ∧ Own Z0 W X [.blk g18 4 ((boolCs (flagL ts.length q.2)).toArray), .blk g35 38 #[.int .i64 xl, .int .i64 xr, .int .i64 xv], .blk g11 70 ((boolCs (flagL 129 (varsL (ts.take i)))).toArray), .ro D (fun w => NodesD D w (.slice (some ⟨b, o, none⟩) ts.length c) ts)]) (fun q => 2 - q.1) (0, kidsL (ts.take i)) ⟨Nat.zero_le _, fun _ => rfl, (fun h => absurd h (by show ¬ 0 = 1; omega)), (fun h => absurd h (by show ¬ 0 = 2; omega)), O66⟩ ⟨rfl, rfl, rfl, rfl, rfl, rfl, rfl, rfl, rfl, rfl, trivial⟩ (fun q w67 hJ F68 K69 => ?_)
            obtain ⟨j, K⟩ := q
            obtain ⟨hjj, hj0, hj1, hj2, O70⟩ := hJ
            dsimp only at hjj hj0 hj1 hj2 O70 ⊢
            rcases (show j = 0 ∨ j = 1 ∨ j = 2 by omega) with rfl | rfl | rfl
            · skip
              obtain rfl : K = (kidsL (ts.take i)) := hj0 rfl
              refine cw_seq (fun FK71 K71 => ?_)
              refine cw_region ?_
              refine wl_val (v := .bool true) (fun ρ e => ex_cmp (u := ((0 : Nat) : Int)) (v := 2) (e _ _ rfl) (e _ _ rfl) (lss1 (by omega))) rfl rfl ?_
              refine wl_nil ?_
              refine xw_next K71 ?_
              refine cw_seq (fun FK72 K72 => ?_)
              refine cw_true rfl ?_
              refine cw_skip ?_
              refine xw_next K72 ?_
              refine cw_seq (fun FK73 K73 => ?_)
              refine cw_block ?_
              refine cw_seq (fun FK74 K74 => ?_)
              refine cw_region ?_
              refine wl_val (v := .int .i64 xl) (fun ρ e => ex_at2 (i := 0) (e _ _ rfl) (e _ _ rfl) (by simp)) rfl rfl ?_
              refine wl_val (v := .int .i64 xl) (fun ρ e => ex_assign (e _ _ rfl)) rfl rfl ?_
              refine wl_nil ?_
              refine xw_next K74 ?_
              refine cw_seq (fun FK75 K75 => ?_)
              refine cw_seq (fun FK76 K76 => ?_)
              refine cw_region ?_
              refine wl_val (v := .int .i64 xl) (fun ρ e => ex_move (e _ _ rfl)) rfl rfl ?_
              by_cases c77 : xl < 0
              · skip
                refine wl_val (v := .bool true) (fun ρ e => ex_cmp (u := xl) (v := 0) (e _ _ rfl) (e _ _ rfl) (lss1 (by omega))) rfl rfl ?_
                refine wl_val (v := .bool true) (fun ρ e => ex_move (e _ _ rfl)) rfl rfl ?_
                refine wl_skip rfl rfl ?_
                refine wl_skip rfl rfl ?_
                refine wl_skip rfl rfl ?_
                refine wl_val (v := .bool true) (fun ρ e => ex_pick1 (e _ _ rfl) (e _ _ rfl)) rfl rfl ?_
                refine wl_val (v := .bool true) (fun ρ e => ex_move (e _ _ rfl)) rfl rfl ?_
                refine wl_skip rfl rfl ?_
                refine wl_skip rfl rfl ?_
                refine wl_skip rfl rfl ?_
                refine wl_skip rfl rfl ?_
                refine wl_val (v := .bool true) (fun ρ e => ex_pick1 (e _ _ rfl) (e _ _ rfl)) rfl rfl ?_
                refine wl_nil ?_
                refine xw_next K76 ?_
                refine cw_true rfl ?_
                refine cw_seq (fun FK78 K78 => ?_)
                refine cw_region ?_
                refine wl_val (v := .int .i64 1) (fun ρ e => ex_assign (e _ _ rfl)) rfl rfl ?_
                refine wl_nil ?_
                refine xw_next K78 ?_
                refine cw_ret ?_
                refine xw_past (by intro h; cases h) ?_
                refine xw_blockret ?_
                refine xw_past (by intro h; cases h) ?_
                refine xw_past (by intro h; cases h) ?_
                refine xw_blockret ?_
                refine xw_blockret ?_
                refine xw_past (by intro h; cases h) ?_
                refine xw_past (by intro h; cases h) ?_
                refine xw_blockret ?_
                refine xw_past (by intro h; cases h) ?_
                refine xw_ret (v := .int .i64 1) (fun T hT => res1 rfl T _ (hT 2 _ rfl)) ?_
                have hno : okT ts = false := not_ok (i + 1) (by rw [htk]; exact preV_l c50 (by first | (left; omega) | (right; left; omega) | (right; right; simpa using c77)))
                exact ⟨by unfold chkV; rw [hno]; rfl, O70.old⟩
              · skip
                refine wl_val (v := .bool false) (fun ρ e => ex_cmp (u := xl) (v := 0) (e _ _ rfl) (e _ _ rfl) (lss0 (by omega))) rfl rfl ?_
                refine wl_val (v := .bool false) (fun ρ e => ex_move (e _ _ rfl)) rfl rfl ?_
                refine wl_val (v := .int .i64 xl) (fun ρ e => ex_move (e _ _ rfl)) rfl rfl ?_
                refine wl_val (v := .int .i64 (i : Int)) (fun ρ e => ex_move (e _ _ rfl)) rfl rfl ?_
                by_cases c79 : xl ≥ (i : Int)
                · skip
                  refine wl_val (v := .bool true) (fun ρ e => ex_cmp (u := xl) (v := (i : Int)) (e _ _ rfl) (e _ _ rfl) (geq1 (by omega))) rfl rfl ?_
                  refine wl_val (v := .bool true) (fun ρ e => ex_pick0 (e _ _ rfl) (e _ _ rfl)) rfl rfl ?_
                  refine wl_val (v := .bool true) (fun ρ e => ex_move (e _ _ rfl)) rfl rfl ?_
                  refine wl_skip rfl rfl ?_
                  refine wl_skip rfl rfl ?_
                  refine wl_skip rfl rfl ?_
                  refine wl_skip rfl rfl ?_
                  refine wl_val (v := .bool true) (fun ρ e => ex_pick1 (e _ _ rfl) (e _ _ rfl)) rfl rfl ?_
                  refine wl_nil ?_
                  refine xw_next K76 ?_
                  refine cw_true rfl ?_
                  refine cw_seq (fun FK80 K80 => ?_)
                  refine cw_region ?_
                  refine wl_val (v := .int .i64 1) (fun ρ e => ex_assign (e _ _ rfl)) rfl rfl ?_
                  refine wl_nil ?_
                  refine xw_next K80 ?_
                  refine cw_ret ?_
                  refine xw_past (by intro h; cases h) ?_
                  refine xw_blockret ?_
                  refine xw_past (by intro h; cases h) ?_
                  refine xw_past (by intro h; cases h) ?_
                  refine xw_blockret ?_
                  refine xw_blockret ?_
                  refine xw_past (by intro h; cases h) ?_
                  refine xw_past (by intro h; cases h) ?_
                  refine xw_blockret ?_
                  refine xw_past (by intro h; cases h) ?_
                  refine xw_ret (v := .int .i64 1) (fun T hT => res1 rfl T _ (hT 2 _ rfl)) ?_
                  have hno : okT ts = false := not_ok (i + 1) (by rw [htk]; exact preV_l c50 (by first | (left; omega) | (right; left; omega) | (right; right; simpa using c79)))
                  exact ⟨by unfold chkV; rw [hno]; rfl, O70.old⟩
                · skip
                  obtain ⟨a, rfl⟩ : ∃ n : Nat, xl = n := ⟨xl.toNat, by omega⟩
                  refine wl_val (v := .bool false) (fun ρ e => ex_cmp (u := (a : Int)) (v := (i : Int)) (e _ _ rfl) (e _ _ rfl) (geq0 (by omega))) rfl rfl ?_
                  refine wl_val (v := .bool false) (fun ρ e => ex_pick0 (e _ _ rfl) (e _ _ rfl)) rfl rfl ?_
                  refine wl_val (v := .bool false) (fun ρ e => ex_move (e _ _ rfl)) rfl rfl ?_
                  refine wl_val (v := .slice (some ⟨g18, 0, none⟩) ts.length ts.length) (fun ρ e => ex_move (e _ _ rfl)) rfl rfl ?_
                  refine wl_val (v := .int .i64 (a : Int)) (fun ρ e => ex_move (e _ _ rfl)) rfl rfl ?_
                  refine wl_val (v := .pointer (some ⟨g18, a, none⟩)) (fun ρ e => ex_idx (q := a) (i := a) el71 (e _ _ rfl) (e _ _ rfl) (by omega) (by omega)) rfl rfl ?_
                  refine wl_val (v := .bool (decide ((a : Int) ∈ (kidsL (ts.take i))))) (fun ρ e => ex_load1 ty4 (e _ _ rfl) (O70.cell 0 a rfl (getBo (flagL_get (kidsL (ts.take i)) (by omega))))) rfl rfl ?_
                  refine wl_val (v := .bool (decide ((a : Int) ∈ (kidsL (ts.take i))))) (fun ρ e => ex_pick0 (e _ _ rfl) (e _ _ rfl)) rfl rfl ?_
                  refine wl_nil ?_
                  refine xw_next K76 ?_
                  refine cw_cond (b := (decide ((a : Int) ∈ (kidsL (ts.take i))))) rfl (fun c81 => ?_) (fun c81 => ?_)
                  · skip
                    refine cw_seq (fun FK82 K82 => ?_)
                    refine cw_region ?_
                    refine wl_val (v := .int .i64 1) (fun ρ e => ex_assign (e _ _ rfl)) rfl rfl ?_
                    refine wl_nil ?_
                    refine xw_next K82 ?_
                    refine cw_ret ?_
                    refine xw_past (by intro h; cases h) ?_
                    refine xw_blockret ?_
                    refine xw_past (by intro h; cases h) ?_
                    refine xw_past (by intro h; cases h) ?_
                    refine xw_blockret ?_
                    refine xw_blockret ?_
                    refine xw_past (by intro h; cases h) ?_
                    refine xw_past (by intro h; cases h) ?_
                    refine xw_blockret ?_
                    refine xw_past (by intro h; cases h) ?_
                    refine xw_ret (v := .int .i64 1) (fun T hT => res1 rfl T _ (hT 2 _ rfl)) ?_
                    have hno : okT ts = false := not_ok (i + 1) (by rw [htk]; exact preV_l c50 (by first | (left; omega) | (right; left; omega) | (right; right; simpa using c81)))
                    exact ⟨by unfold chkV; rw [hno]; rfl, O70.old⟩
                  · skip
                    refine cw_skip ?_
                    refine xw_next K75 ?_
                    refine cw_region ?_
                    refine wl_val (v := .slice (some ⟨g18, 0, none⟩) ts.length ts.length) (fun ρ e => ex_move (e _ _ rfl)) rfl rfl ?_
                    refine wl_val (v := .int .i64 (a : Int)) (fun ρ e => ex_move (e _ _ rfl)) rfl rfl ?_
                    refine wl_val (v := .pointer (some ⟨g18, a, none⟩)) (fun ρ e => ex_idx (q := a) (i := a) el71 (e _ _ rfl) (e _ _ rfl) (by omega) (by omega)) rfl rfl ?_
                    obtain ⟨w83, r84, O85, hs86⟩ := own_put (o := a) (n := 1) O70 ty4 (.bool true) [.bool true] (cs' := (boolCs (flagL ts.length ((kidsL (ts.take i)) ++ [(a : Int)]))).toArray) rfl rfl rfl (by simp [boolCs, flagL_len] <;> omega) ((setBo _ a true).trans (congrArg (fun z => (boolCs z).toArray) (flagL_set ts.length a (kidsL (ts.take i)))))
                    refine wl_none (fun ρ e => r84 ρ _ _ _ _ _ _ (e _ _ rfl) (e _ _ rfl)) rfl ?_
                    refine wl_nil ?_
                    refine xw_block ?_
                    refine xw_next K73 ?_
                    refine cw_region ?_
                    refine wl_val (v := .int .i64 ((0 + 1 : Nat) : Int)) (fun ρ e => ex_arith (k := .i64) (u := ((0 : Nat) : Int)) (v := 1) (e _ _ rfl) (e _ _ rfl) (congrArg some ((congrArg _ (by omega)).trans (wrap_in (u := ((0 + 1 : Nat) : Int)) (by omega) (by omega))))) rfl rfl ?_
                    refine wl_val (v := .int .i64 ((0 + 1 : Nat) : Int)) (fun ρ e => ex_move (e _ _ rfl)) rfl rfl ?_
                    refine wl_nil ?_
                    refine xw_round K69 (0 + 1, ((kidsL (ts.take i)) ++ [(a : Int)])) (by show 2 - (0 + 1) < 2 - 0; omega) ⟨(by show 0 + 1 ≤ 2; omega), (fun h => absurd h (by show ¬ 0 + 1 = 0; omega)), (fun _ => ⟨rfl, by omega, by omega, by simpa using c81⟩), (fun h => absurd h (by show ¬ 0 + 1 = 2; omega)), O85⟩ ⟨rfl, rfl, rfl, rfl, rfl, rfl, rfl, rfl, rfl, rfl, trivial⟩
            · skip
              obtain rfl : K = (kidsL (ts.take i) ++ [xl]) := (hj1 rfl).1
              obtain ⟨_, hl0, hl1, hka⟩ := hj1 rfl
              refine cw_seq (fun FK87 K87 => ?_)
              refine cw_region ?_
              refine wl_val (v := .bool true) (fun ρ e => ex_cmp (u := ((1 : Nat) : Int)) (v := 2) (e _ _ rfl) (e _ _ rfl) (lss1 (by omega))) rfl rfl ?_
              refine wl_nil ?_
              refine xw_next K87 ?_
              refine cw_seq (fun FK88 K88 => ?_)
              refine cw_true rfl ?_
              refine cw_skip ?_
              refine xw_next K88 ?_
              refine cw_seq (fun FK89 K89 => ?_)
              refine cw_block ?_
              refine cw_seq (fun FK90 K90 => ?_)
              refine cw_region ?_
              refine wl_val (v := .int .i64 xr) (fun ρ e => ex_at2 (i := 1) (e _ _ rfl) (e _ _ rfl) (by simp)) rfl rfl ?_
              refine wl_val (v := .int .i64 xr) (fun ρ e => ex_assign (e _ _ rfl)) rfl rfl ?_
              refine wl_nil ?_
              refine xw_next K90 ?_
              refine cw_seq (fun FK91 K91 => ?_)
              refine cw_seq (fun FK92 K92 => ?_)
              refine cw_region ?_
              refine wl_val (v := .int .i64 xr) (fun ρ e => ex_move (e _ _ rfl)) rfl rfl ?_
              by_cases c93 : xr < 0
              · skip
                refine wl_val (v := .bool true) (fun ρ e => ex_cmp (u := xr) (v := 0) (e _ _ rfl) (e _ _ rfl) (lss1 (by omega))) rfl rfl ?_
                refine wl_val (v := .bool true) (fun ρ e => ex_move (e _ _ rfl)) rfl rfl ?_
                refine wl_skip rfl rfl ?_
                refine wl_skip rfl rfl ?_
                refine wl_skip rfl rfl ?_
                refine wl_val (v := .bool true) (fun ρ e => ex_pick1 (e _ _ rfl) (e _ _ rfl)) rfl rfl ?_
                refine wl_val (v := .bool true) (fun ρ e => ex_move (e _ _ rfl)) rfl rfl ?_
                refine wl_skip rfl rfl ?_
                refine wl_skip rfl rfl ?_
                refine wl_skip rfl rfl ?_
                refine wl_skip rfl rfl ?_
                refine wl_val (v := .bool true) (fun ρ e => ex_pick1 (e _ _ rfl) (e _ _ rfl)) rfl rfl ?_
                refine wl_nil ?_
                refine xw_next K92 ?_
                refine cw_true rfl ?_
                refine cw_seq (fun FK94 K94 => ?_)
                refine cw_region ?_
                refine wl_val (v := .int .i64 1) (fun ρ e => ex_assign (e _ _ rfl)) rfl rfl ?_
                refine wl_nil ?_
                refine xw_next K94 ?_
                refine cw_ret ?_
                refine xw_past (by intro h; cases h) ?_
                refine xw_blockret ?_
                refine xw_past (by intro h; cases h) ?_
                refine xw_past (by intro h; cases h) ?_
                refine xw_blockret ?_
                refine xw_blockret ?_
                refine xw_past (by intro h; cases h) ?_
                refine xw_past (by intro h; cases h) ?_
                refine xw_blockret ?_
                refine xw_past (by intro h; cases h) ?_
                refine xw_ret (v := .int .i64 1) (fun T hT => res1 rfl T _ (hT 2 _ rfl)) ?_
                have hno : okT ts = false := not_ok (i + 1) (by rw [htk]; exact preV_r c50 (by first | (left; omega) | (right; left; omega) | (right; right; simpa using c93)))
                exact ⟨by unfold chkV; rw [hno]; rfl, O70.old⟩
              · skip
                refine wl_val (v := .bool false) (fun ρ e => ex_cmp (u := xr) (v := 0) (e _ _ rfl) (e _ _ rfl) (lss0 (by omega))) rfl rfl ?_
                refine wl_val (v := .bool false) (fun ρ e => ex_move (e _ _ rfl)) rfl rfl ?_
                refine wl_val (v := .int .i64 xr) (fun ρ e => ex_move (e _ _ rfl)) rfl rfl ?_
                refine wl_val (v := .int .i64 (i : Int)) (fun ρ e => ex_move (e _ _ rfl)) rfl rfl ?_
                by_cases c95 : xr ≥ (i : Int)
                · skip
                  refine wl_val (v := .bool true) (fun ρ e => ex_cmp (u := xr) (v := (i : Int)) (e _ _ rfl) (e _ _ rfl) (geq1 (by omega))) rfl rfl ?_
                  refine wl_val (v := .bool true) (fun ρ e => ex_pick0 (e _ _ rfl) (e _ _ rfl)) rfl rfl ?_
                  refine wl_val (v := .bool true) (fun ρ e => ex_move (e _ _ rfl)) rfl rfl ?_
                  refine wl_skip rfl rfl ?_
                  refine wl_skip rfl rfl ?_
                  refine wl_skip rfl rfl ?_
                  refine wl_skip rfl rfl ?_
                  refine wl_val (v := .bool true) (fun ρ e => ex_pick1 (e _ _ rfl) (e _ _ rfl)) rfl rfl ?_
                  refine wl_nil ?_
                  refine xw_next K92 ?_
                  refine cw_true rfl ?_
                  refine cw_seq (fun FK96 K96 => ?_)
                  refine cw_region ?_
                  refine wl_val (v := .int .i64 1) (fun ρ e => ex_assign (e _ _ rfl)) rfl rfl ?_
                  refine wl_nil ?_
                  refine xw_next K96 ?_
                  refine cw_ret ?_
                  refine xw_past (by intro h; cases h) ?_
                  refine xw_blockret ?_
                  refine xw_past (by intro h; cases h) ?_
                  refine xw_past (by intro h; cases h) ?_
                  refine xw_blockret ?_
                  refine xw_blockret ?_
                  refine xw_past (by intro h; cases h) ?_
                  refine xw_past (by intro h; cases h) ?_
                  refine xw_blockret ?_
                  refine xw_past (by intro h; cases h) ?_
                  refine xw_ret (v := .int .i64 1) (fun T hT => res1 rfl T _ (hT 2 _ rfl)) ?_
                  have hno : okT ts = false := not_ok (i + 1) (by rw [htk]; exact preV_r c50 (by first | (left; omega) | (right; left; omega) | (right; right; simpa using c95)))
                  exact ⟨by unfold chkV; rw [hno]; rfl, O70.old⟩
                · skip
                  obtain ⟨b2, rfl⟩ : ∃ n : Nat, xr = n := ⟨xr.toNat, by omega⟩
                  refine wl_val (v := .bool false) (fun ρ e => ex_cmp (u := (b2 : Int)) (v := (i : Int)) (e _ _ rfl) (e _ _ rfl) (geq0 (by omega))) rfl rfl ?_
                  refine wl_val (v := .bool false) (fun ρ e => ex_pick0 (e _ _ rfl) (e _ _ rfl)) rfl rfl ?_
                  refine wl_val (v := .bool false) (fun ρ e => ex_move (e _ _ rfl)) rfl rfl ?_
                  refine wl_val (v := .slice (some ⟨g18, 0, none⟩) ts.length ts.length) (fun ρ e => ex_move (e _ _ rfl)) rfl rfl ?_
                  refine wl_val (v := .int .i64 (b2 : Int)) (fun ρ e => ex_move (e _ _ rfl)) rfl rfl ?_
                  refine wl_val (v := .pointer (some ⟨g18, b2, none⟩)) (fun ρ e => ex_idx (q := b2) (i := b2) el71 (e _ _ rfl) (e _ _ rfl) (by omega) (by omega)) rfl rfl ?_
                  refine wl_val (v := .bool (decide ((b2 : Int) ∈ (kidsL (ts.take i) ++ [xl])))) (fun ρ e => ex_load1 ty4 (e _ _ rfl) (O70.cell 0 b2 rfl (getBo (flagL_get (kidsL (ts.take i) ++ [xl]) (by omega))))) rfl rfl ?_
                  refine wl_val (v := .bool (decide ((b2 : Int) ∈ (kidsL (ts.take i) ++ [xl])))) (fun ρ e => ex_pick0 (e _ _ rfl) (e _ _ rfl)) rfl rfl ?_
                  refine wl_nil ?_
                  refine xw_next K92 ?_
                  refine cw_cond (b := (decide ((b2 : Int) ∈ (kidsL (ts.take i) ++ [xl])))) rfl (fun c97 => ?_) (fun c97 => ?_)
                  · skip
                    refine cw_seq (fun FK98 K98 => ?_)
                    refine cw_region ?_
                    refine wl_val (v := .int .i64 1) (fun ρ e => ex_assign (e _ _ rfl)) rfl rfl ?_
                    refine wl_nil ?_
                    refine xw_next K98 ?_
                    refine cw_ret ?_
                    refine xw_past (by intro h; cases h) ?_
                    refine xw_blockret ?_
                    refine xw_past (by intro h; cases h) ?_
                    refine xw_past (by intro h; cases h) ?_
                    refine xw_blockret ?_
                    refine xw_blockret ?_
                    refine xw_past (by intro h; cases h) ?_
                    refine xw_past (by intro h; cases h) ?_
                    refine xw_blockret ?_
                    refine xw_past (by intro h; cases h) ?_
                    refine xw_ret (v := .int .i64 1) (fun T hT => res1 rfl T _ (hT 2 _ rfl)) ?_
                    have hno : okT ts = false := not_ok (i + 1) (by rw [htk]; exact preV_r c50 (by first | (left; omega) | (right; left; omega) | (right; right; simpa using c97)))
                    exact ⟨by unfold chkV; rw [hno]; rfl, O70.old⟩
                  · skip
                    refine cw_skip ?_
                    refine xw_next K91 ?_
                    refine cw_region ?_
                    refine wl_val (v := .slice (some ⟨g18, 0, none⟩) ts.length ts.length) (fun ρ e => ex_move (e _ _ rfl)) rfl rfl ?_
                    refine wl_val (v := .int .i64 (b2 : Int)) (fun ρ e => ex_move (e _ _ rfl)) rfl rfl ?_
                    refine wl_val (v := .pointer (some ⟨g18, b2, none⟩)) (fun ρ e => ex_idx (q := b2) (i := b2) el71 (e _ _ rfl) (e _ _ rfl) (by omega) (by omega)) rfl rfl ?_
                    obtain ⟨w99, r100, O101, hs102⟩ := own_put (o := b2) (n := 1) O70 ty4 (.bool true) [.bool true] (cs' := (boolCs (flagL ts.length ((kidsL (ts.take i) ++ [xl]) ++ [(b2 : Int)]))).toArray) rfl rfl rfl (by simp [boolCs, flagL_len] <;> omega) ((setBo _ b2 true).trans (congrArg (fun z => (boolCs z).toArray) (flagL_set ts.length b2 (kidsL (ts.take i) ++ [xl]))))
                    refine wl_none (fun ρ e => r100 ρ _ _ _ _ _ _ (e _ _ rfl) (e _ _ rfl)) rfl ?_
                    refine wl_nil ?_
                    refine xw_block ?_
                    refine xw_next K89 ?_
                    refine cw_region ?_
                    refine wl_val (v := .int .i64 ((1 + 1 : Nat) : Int)) (fun ρ e => ex_arith (k := .i64) (u := ((1 : Nat) : Int)) (v := 1) (e _ _ rfl) (e _ _ rfl) (congrArg some ((congrArg _ (by omega)).trans (wrap_in (u := ((1 + 1 : Nat) : Int)) (by omega) (by omega))))) rfl rfl ?_
                    refine wl_val (v := .int .i64 ((1 + 1 : Nat) : Int)) (fun ρ e => ex_move (e _ _ rfl)) rfl rfl ?_
                    refine wl_nil ?_
                    refine xw_round K69 (1 + 1, ((kidsL (ts.take i) ++ [xl]) ++ [(b2 : Int)])) (by show 2 - (1 + 1) < 2 - 1; omega) ⟨(by show 1 + 1 ≤ 2; omega), (fun h => absurd h (by show ¬ 1 + 1 = 0; omega)), (fun h => absurd h (by show ¬ 1 + 1 = 1; omega)), (fun _ => ⟨by simp, hl0, hl1, hka, by omega, by omega, by simpa using c97⟩), O101⟩ ⟨rfl, rfl, rfl, rfl, rfl, rfl, rfl, rfl, rfl, rfl, trivial⟩
            · skip
              obtain rfl : K = (kidsL (ts.take i) ++ [xl, xr]) := (hj2 rfl).1
              obtain ⟨_, hl0, hl1, hka, hr0, hr1, hkb⟩ := hj2 rfl
              refine cw_seq (fun FK103 K103 => ?_)
              refine cw_region ?_
              refine wl_val (v := .bool false) (fun ρ e => ex_cmp (u := ((2 : Nat) : Int)) (v := 2) (e _ _ rfl) (e _ _ rfl) (lss0 (by omega))) rfl rfl ?_
              refine wl_nil ?_
              refine xw_next K103 ?_
              refine cw_seq (fun FK104 K104 => ?_)
              refine cw_false rfl ?_
              refine cw_exit ?_
              refine xw_past (by intro h; cases h) ?_
              refine xw_past (by intro h; cases h) ?_
              refine xw_here ?_
              refine xw_block ?_
              refine xw_next K33 ?_
              refine cw_region ?_
              refine wl_val (v := .int .i64 ((i + 1 : Nat) : Int)) (fun ρ e => ex_arith (k := .i64) (u := (i : Int)) (v := 1) (e _ _ rfl) (e _ _ rfl) (congrArg some ((congrArg _ (by omega)).trans (wrap_in (u := ((i + 1 : Nat) : Int)) (by omega) (by omega))))) rfl rfl ?_
              refine wl_val (v := .int .i64 ((i + 1 : Nat) : Int)) (fun ρ e => ex_move (e _ _ rfl)) rfl rfl ?_
              refine wl_nil ?_
              have hV2 : varsL (ts.take (i + 1)) = varsL (ts.take i) := by rw [htk, varsL_snoc]; simp [varOf, c50]
              have hK2 : kidsL (ts.take (i + 1)) = (kidsL (ts.take i) ++ [xl, xr]) := by rw [htk, kidsL_snoc]; simp [kidsOf, c50]
              have O105 : Own Z0 W w67 [.blk g11 70 ((boolCs (flagL 129 (varsL (ts.take (i + 1))))).toArray), .blk g18 4 ((boolCs (flagL ts.length (kidsL (ts.take (i + 1))))).toArray), .ro D (fun w => NodesD D w (.slice (some ⟨b, o, none⟩) ts.length c) ts)] := by rw [hV2, hK2]; exact (O70.re [2, 0, 3] rfl : Own Z0 W w67 [.blk g11 70 ((boolCs (flagL 129 (varsL (ts.take i)))).toArray), .blk g18 4 ((boolCs (flagL ts.length (kidsL (ts.take i) ++ [xl, xr]))).toArray), .ro D (fun w => NodesD D w (.slice (some ⟨b, o, none⟩) ts.length c) ts)])
              refine xw_round K29 (i + 1) (by show ts.length - (i + 1) < ts.length - i; omega) ⟨(by show i + 1 ≤ ts.length; omega), (by show preB (ts.take (i + 1)) = true; rw [htk]; exact preV_in hp c50 (by omega) (by omega) (by omega) hka (by omega) (by omega) hkb), O105⟩ ⟨rfl, rfl, rfl, rfl, rfl, rfl, trivial⟩
      · have hie : i = ts.length := by omega
        subst hie
        rw [List.take_length] at hp
        have hpre := hp
        have hOt : ts.take ts.length = ts := List.take_length
        rw [hOt] at O30
        refine cw_seq (fun FK106 K106 => ?_)
        refine cw_region ?_
        refine wl_val (v := .bool false) (fun ρ e => ex_cmp (u := ((ts.length : Nat) : Int)) (v := ((ts.length : Nat) : Int)) (e _ _ rfl) (e _ _ rfl) (lss0 (by omega))) rfl rfl ?_
        refine wl_nil ?_
        refine xw_next K106 ?_
        refine cw_seq (fun FK107 K107 => ?_)
        refine cw_false rfl ?_
        refine cw_exit ?_
        refine xw_past (by intro h; cases h) ?_
        refine xw_past (by intro h; cases h) ?_
        refine xw_here ?_
        refine xw_next K24 ?_
        refine cw_seq (fun FK108 K108 => ?_)
        refine cw_seq (fun FK109 K109 => ?_)
        refine cw_region ?_
        refine wl_val (v := .slice (some ⟨g18, 0, none⟩) ts.length ts.length) (fun ρ e => ex_move (e _ _ rfl)) rfl rfl ?_
        refine wl_val (v := .slice (some ⟨b, o, none⟩) ts.length c) (fun ρ e => ex_move (e _ _ rfl)) rfl rfl ?_
        refine wl_val (v := .int .i64 ((ts.length : Nat) : Int)) (fun ρ e => ex_len el23 (e _ _ rfl)) rfl rfl ?_
        refine wl_val (v := .int .i64 ((ts.length - 1 : Nat) : Int)) (fun ρ e => ex_arith (k := .i64) (u := ((ts.length : Nat) : Int)) (v := 1) (e _ _ rfl) (e _ _ rfl) (congrArg some ((congrArg _ (show _ = ((ts.length - 1 : Nat) : Int) by omega)).trans (wrap_in (by omega) (by omega))))) rfl rfl ?_
        refine wl_val (v := .slice (some ⟨g18, 0, none⟩) (ts.length - 1) ts.length) (fun ρ e => ex_sliceHi (h := ts.length - 1) el71 (e _ _ rfl) (e _ _ rfl) (by omega)) rfl rfl ?_
        refine wl_val (v := .int .i64 ((ts.length - 1 : Nat) : Int)) (fun ρ e => ex_len el71 (e _ _ rfl)) rfl rfl ?_
        refine wl_val (v := .int .i64 0) (fun ρ e => ex_move (e _ _ rfl)) rfl rfl ?_
        refine wl_nil ?_
        refine xw_next K109 ?_
        refine cw_block ?_
        refine cw_loop (ι := Nat) (fun q => [(71, .slice (some ⟨g18, 0, none⟩) (ts.length - 1) ts.length), (72, .int .i64 ((ts.length - 1 : Nat) : Int)), (73, .int .i64 (q : Int))]) (fun q X => (q ≤ ts.length - 1) ∧ (∀ k, k < q → (k : Int) ∈ kidsL ts) ∧ Own Z0 W X [.blk g11 70 ((boolCs (flagL 129 (varsL ts))).toArray), .blk g18 4 ((boolCs (flagL ts.length (kidsL ts))).toArray), .ro D (fun w => NodesD D w (.slice (some ⟨b, o, none⟩) ts.length c) ts)]) (fun q => ts.length - q) 0 ⟨Nat.zero_le _, (fun k hk => absurd hk (Nat.not_lt_zero k)), O30⟩ ⟨rfl, rfl, rfl, trivial⟩ (fun q w110 hJ F111 K112 => ?_)
        obtain ⟨j, rfl⟩ : ∃ x, x = q := ⟨_, rfl⟩
        obtain ⟨hj0, hcv, O113⟩ := hJ
        try dsimp only at hj0 hcv O113 ⊢
        by_cases hj : j < ts.length - 1
        · skip
          refine cw_seq (fun FK114 K114 => ?_)
          refine cw_region ?_
          refine wl_val (v := .bool true) (fun ρ e => ex_cmp (u := (j : Int)) (v := ((ts.length - 1 : Nat) : Int)) (e _ _ rfl) (e _ _ rfl) (lss1 (by omega))) rfl rfl ?_
          refine wl_nil ?_
          refine xw_next K114 ?_
          refine cw_seq (fun FK115 K115 => ?_)
          refine cw_true rfl ?_
          refine cw_skip ?_
          refine xw_next K115 ?_
          refine cw_seq (fun FK116 K116 => ?_)
          refine cw_block ?_
          refine cw_seq (fun FK117 K117 => ?_)
          refine cw_region ?_
          refine wl_val (v := .pointer (some ⟨g18, j, none⟩)) (fun ρ e => ex_idx (q := j) (i := j) el71 (e _ _ rfl) (e _ _ rfl) (by omega) (by omega)) rfl rfl ?_
          refine wl_val (v := .bool (decide ((j : Int) ∈ (kidsL ts)))) (fun ρ e => ex_load1 ty4 (e _ _ rfl) (O113.cell 1 j rfl (getBo (flagL_get (kidsL ts) (by omega))))) rfl rfl ?_
          refine wl_val (v := .bool (decide ((j : Int) ∈ (kidsL ts)))) (fun ρ e => ex_assign (e _ _ rfl)) rfl rfl ?_
          refine wl_nil ?_
          refine xw_next K117 ?_
          refine cw_seq (fun FK118 K118 => ?_)
          refine cw_region ?_
          refine wl_val (v := .bool (decide ((j : Int) ∈ (kidsL ts)))) (fun ρ e => ex_move (e _ _ rfl)) rfl rfl ?_
          refine wl_val (v := .bool (!(decide ((j : Int) ∈ (kidsL ts))))) (fun ρ e => ex_lnot (b := (decide ((j : Int) ∈ (kidsL ts)))) (e _ _ rfl)) rfl rfl ?_
          refine wl_nil ?_
          refine xw_next K118 ?_
          refine cw_cond (b := (!(decide ((j : Int) ∈ (kidsL ts))))) rfl (fun c119 => ?_) (fun c119 => ?_)
          · skip
            refine cw_seq (fun FK120 K120 => ?_)
            refine cw_region ?_
            refine wl_val (v := .int .i64 1) (fun ρ e => ex_assign (e _ _ rfl)) rfl rfl ?_
            refine wl_nil ?_
            refine xw_next K120 ?_
            refine cw_ret ?_
            refine xw_blockret ?_
            refine xw_past (by intro h; cases h) ?_
            refine xw_past (by intro h; cases h) ?_
            refine xw_blockret ?_
            refine xw_past (by intro h; cases h) ?_
            refine xw_ret (v := .int .i64 1) (fun T hT => res1 rfl T _ (hT 2 _ rfl)) ?_
            have hno : okT ts = false := (Bool.eq_false_iff.2 fun q => absurd ((cover_iff ts).1 (okT_parts.1 q).2.2.2 j (by omega)) (by simpa using c119))
            exact ⟨by unfold chkV; rw [hno]; rfl, O113.old⟩
          · skip
            refine cw_skip ?_
            refine xw_block ?_
            refine xw_next K116 ?_
            refine cw_region ?_
            refine wl_val (v := .int .i64 ((j + 1 : Nat) : Int)) (fun ρ e => ex_arith (k := .i64) (u := (j : Int)) (v := 1) (e _ _ rfl) (e _ _ rfl) (congrArg some ((congrArg _ (by omega)).trans (wrap_in (u := ((j + 1 : Nat) : Int)) (by omega) (by omega))))) rfl rfl ?_
            refine wl_val (v := .int .i64 ((j + 1 : Nat) : Int)) (fun ρ e => ex_move (e _ _ rfl)) rfl rfl ?_
            refine wl_nil ?_
            refine xw_round K112 (j + 1) (by show ts.length - (j + 1) < ts.length - j; omega) ⟨(by show j + 1 ≤ _; omega), (fun k hk => by rcases Nat.lt_succ_iff_lt_or_eq.1 hk with h | h; exact hcv k h; subst h; simpa using c119), O113⟩ ⟨rfl, rfl, rfl, trivial⟩
        · have hcov : ∀ k, k < ts.length - 1 → (k : Int) ∈ kidsL ts := fun k hk => hcv k (by omega)
          refine cw_seq (fun FK121 K121 => ?_)
          refine cw_region ?_
          refine wl_val (v := .bool false) (fun ρ e => ex_cmp (u := (j : Int)) (v := ((ts.length - 1 : Nat) : Int)) (e _ _ rfl) (e _ _ rfl) (lss0 (by omega))) rfl rfl ?_
          refine wl_nil ?_
          refine xw_next K121 ?_
          refine cw_seq (fun FK122 K122 => ?_)
          refine cw_false rfl ?_
          refine cw_exit ?_
          refine xw_past (by intro h; cases h) ?_
          refine xw_past (by intro h; cases h) ?_
          refine xw_here ?_
          refine xw_next K108 ?_
          refine cw_seq (fun FK123 K123 => ?_)
          refine cw_region ?_
          refine wl_val (v := .int .i64 0) (fun ρ e => ex_assign (e _ _ rfl)) rfl rfl ?_
          refine wl_nil ?_
          refine xw_next K123 ?_
          refine cw_ret ?_
          refine xw_ret (v := .int .i64 0) (fun T hT => res1 rfl T _ (hT 2 _ rfl)) ?_
          have hok : okT ts = true := okT_parts.2 ⟨by omega, by omega, hpre, (cover_iff ts).2 fun k hk => hcov k hk⟩
          exact ⟨by unfold chkV; rw [hok]; rfl, O113.old⟩
end Go.Proofs.YtpeoodkepjhhiaaDoor
namespace Go.Proofs.YtpeoodkepjhhiaaDoor

/-! ### Lists without repetition -/
theorem sub_len {α : Type} [DecidableEq α] : ∀ {l m : List α}, l.Nodup → (∀ x ∈ l, x ∈ m) → l.length ≤ m.length
  | [], _, _, _ => Nat.zero_le _
  | a :: l, m, h, hs => by
    have ha := hs a (by simp)
    have hn := List.nodup_cons.1 h
    have ih := sub_len (l := l) (m := m.erase a) hn.2 (fun x hx => (List.mem_erase_of_ne (by rintro rfl; exact hn.1 hx)).2 (hs x (by simp [hx])))
    rw [List.length_erase_of_mem ha] at ih
    have := List.length_pos_of_mem ha
    simp only [List.length_cons]
    omega
theorem nodup_castrange (n : Nat) : ((List.range n).map fun k : Nat => (k : Int)).Nodup := by
  rw [List.nodup_iff_pairwise_ne, List.pairwise_map]
  exact (List.nodup_iff_pairwise_ne.1 List.nodup_range).imp (fun h e => h (by omega))
theorem range_len {l : List Int} {n : Nat} (h : l.Nodup) (hr : ∀ x ∈ l, 0 ≤ x ∧ x < n) : l.length ≤ n := by
  have := sub_len (m := (List.range n).map fun k : Nat => (k : Int)) h (fun x hx => by
    obtain ⟨h1, h2⟩ := hr x hx
    exact List.mem_map.2 ⟨x.toNat, List.mem_range.2 (by omega), by omega⟩)
  simpa using this
theorem cover_len {l : List Int} {n : Nat} (hc : ∀ k, k < n → (k : Int) ∈ l) : n ≤ l.length := by
  have := sub_len (l := (List.range n).map fun k : Nat => (k : Int)) (m := l) (nodup_castrange n) (fun x hx => by
    obtain ⟨k, hk, rfl⟩ := List.mem_map.1 hx
    exact hc k (List.mem_range.1 hk))
  simpa using this
theorem kids_vars_len (ts : List VN) : (kidsL ts).length + 2 * (varsL ts).length = 2 * ts.length := by
  induction ts with
  | nil => rfl
  | cons x r ih =>
    have e1 : kidsL (x :: r) = kidsOf x ++ kidsL r := by simp [kidsL]
    have e2 : varsL (x :: r) = varOf x ++ varsL r := by simp [varsL]
    rw [e1, e2, List.length_append, List.length_append, List.length_cons]
    have : (kidsOf x).length + 2 * (varOf x).length = 2 := by unfold kidsOf varOf; split <;> rfl
    omega
theorem mem_kids {ts : List VN} {k : Int} : k ∈ kidsL ts ↔ ∃ (i : Nat) (x : VN), ts[i]? = some x ∧ lf x = false ∧ (k = x.l ∨ k = x.r) := by
  unfold kidsL
  rw [List.mem_flatMap]
  constructor
  · rintro ⟨x, hx, hk⟩
    obtain ⟨i, hi⟩ := List.mem_iff_getElem?.1 hx
    unfold kidsOf at hk
    cases h : lf x with
    | true => rw [h] at hk; simp at hk
    | false => rw [h] at hk; exact ⟨i, x, hi, h, by simpa using hk⟩
  · rintro ⟨i, x, hi, h, hk⟩
    refine ⟨x, List.mem_of_getElem? hi, ?_⟩
    unfold kidsOf
    rw [h]
    simpa using hk
theorem mem_vars {ts : List VN} {v : Int} : v ∈ varsL ts ↔ ∃ (i : Nat) (x : VN), ts[i]? = some x ∧ lf x = true ∧ v = x.v := by
  unfold varsL
  rw [List.mem_flatMap]
  constructor
  · rintro ⟨x, hx, hk⟩
    obtain ⟨i, hi⟩ := List.mem_iff_getElem?.1 hx
    unfold varOf at hk
    cases h : lf x with
    | true => rw [h] at hk; exact ⟨i, x, hi, h, by simpa using hk⟩
    | false => rw [h] at hk; simp at hk
  · rintro ⟨i, x, hi, h, hk⟩
    refine ⟨x, List.mem_of_getElem? hi, ?_⟩
    unfold varOf
    rw [h]
    simpa using hk
theorem nodeB_inner {i : Nat} {x : VN} (h : nodeB i x = true) (hx : lf x = false) : x.v = 0 ∧ 0 ≤ x.l ∧ x.l < i ∧ 0 ≤ x.r ∧ x.r < i := by
  unfold nodeB at h
  rw [hx] at h
  simpa [and_assoc] using h
theorem vars_le {ts : List VN} : ∀ v ∈ varsL ts, 1 ≤ v ∧ v ≤ 128 := fun v hv => by
  obtain ⟨i, x, _, h, rfl⟩ := mem_vars.1 hv
  exact ((lf_iff x).1 h).2.2
theorem vars_few {ts : List VN} (h : (varsL ts).Nodup) : (varsL ts).length ≤ 128 := by
  have h2 : ((varsL ts).map fun v => v - 1).Nodup := by
    rw [List.nodup_iff_pairwise_ne, List.pairwise_map]
    exact (List.nodup_iff_pairwise_ne.1 h).imp (fun h e => h (by omega))
  have := range_len (n := 128) h2 (fun x hx => by
    obtain ⟨v, hv, rfl⟩ := List.mem_map.1 hx
    have := vars_le v hv
    omega)
  simpa using this
theorem kids_lt {ts : List VN} (h : nodesB ts = true) : ∀ k ∈ kidsL ts, 0 ≤ k ∧ k < (ts.length - 1 : Nat) := fun k hk => by
  obtain ⟨i, x, hi, hx, hk⟩ := mem_kids.1 hk
  obtain ⟨_, h1, h2, h3, h4⟩ := nodeB_inner ((nodesB_iff ts).1 h i x hi) hx
  have := (List.getElem?_eq_some_iff.1 hi).1
  rcases hk with rfl | rfl <;> omega
theorem count_one {l : List Int} (h : ∀ x ∈ l, l.count x = 1) : l.Nodup := by
  rw [List.nodup_iff_count]
  intro a
  by_cases ha : a ∈ l
  · rw [h a ha]; exact Nat.le_refl _
  · rw [List.count_eq_zero_of_not_mem ha]; exact Nat.zero_le _
theorem kidsOf_nodup {x : VN} : ∀ {ts : List VN}, (kidsL ts).Nodup → x ∈ ts → (kidsOf x).Nodup
  | [], _, hx => by cases hx
  | y :: r, h, hx => by
    have e1 : kidsL (y :: r) = kidsOf y ++ kidsL r := by simp [kidsL]
    rw [e1] at h
    obtain ⟨h1, h2, _⟩ := List.nodup_append.1 h
    rcases List.mem_cons.1 hx with rfl | hx
    · exact h1
    · exact kidsOf_nodup h2 hx
theorem rok_ok (ts : List VN) : rokT ts = okT ts := by
  rw [Bool.eq_iff_iff, rokT_parts, okT_parts]
  have hcv : coverB ts = true ↔ ∀ k, k < ts.length - 1 → (k : Int) ∈ kidsL ts := by unfold coverB; simp
  have hrc : rcoverB ts = true ↔ ∀ k, k < ts.length - 1 → (kidsL ts).count (k : Int) = 1 := by unfold rcoverB; simp
  constructor
  · rintro ⟨h0, hp, hc⟩
    rw [hrc] at hc
    unfold rpreB at hp
    simp only [Bool.and_eq_true, decide_eq_true_eq] at hp
    obtain ⟨h1, h2⟩ := hp
    have hn : nodesB ts = true := (nodesB_iff ts).2 fun i x hi => by
      have := (rnodesB_iff ts).1 h1 i x hi
      unfold rnodeB at this
      simp only [Bool.and_eq_true] at this
      exact this.1
    have hk := kids_lt hn
    have hnd : (kidsL ts).Nodup := count_one fun x hx => by
      obtain ⟨q1, q2⟩ := hk x hx
      have := hc x.toNat (by omega)
      rwa [show ((x.toNat : Nat) : Int) = x by omega] at this
    refine ⟨h0, ?_, ?_, ?_⟩
    · have e := kids_vars_len ts
      have := vars_few h2
      have := range_len hnd hk
      have := cover_len (l := kidsL ts) (n := ts.length - 1) (fun k hk => List.count_pos_iff.1 (by rw [hc k hk]; exact Nat.one_pos))
      omega
    · unfold preB
      simp only [Bool.and_eq_true, decide_eq_true_eq]
      exact ⟨⟨hn, h2⟩, hnd⟩
    · rw [hcv]
      exact fun k hk => List.count_pos_iff.1 (by rw [hc k hk]; exact Nat.one_pos)
  · rintro ⟨h0, _, hp, hc⟩
    rw [hcv] at hc
    unfold preB at hp
    simp only [Bool.and_eq_true, decide_eq_true_eq] at hp
    obtain ⟨⟨h1, h2⟩, h3⟩ := hp
    refine ⟨h0, ?_, ?_⟩
    · unfold rpreB
      simp only [Bool.and_eq_true, decide_eq_true_eq]
      refine ⟨(rnodesB_iff ts).2 fun i x hi => ?_, h2⟩
      have := (nodesB_iff ts).1 h1 i x hi
      unfold rnodeB
      rw [this]
      cases h : lf x with
      | true => rfl
      | false =>
        simp only [Bool.true_and, Bool.false_or, decide_eq_true_eq]
        intro he
        have hm : kidsOf x = [x.l, x.r] := by unfold kidsOf; rw [h]; rfl
        have : (kidsOf x).Nodup := kidsOf_nodup h3 (List.mem_of_getElem? hi)
        rw [hm, he] at this
        simp at this
    · rw [hrc]
      intro k hk
      have h5 := List.count_pos_iff.2 (hc k hk)
      have h6 := List.nodup_iff_count.1 h3 (k : Int)
      omega
end Go.Proofs.YtpeoodkepjhhiaaDoor
namespace Go.Proofs.YtpeoodkepjhhiaaDoor

inductive Tr where
  | leaf (v : Int)
  | node (a b : Tr)
def Tr.size : Tr → Nat
  | .leaf _ => 1
  | .node a b => a.size + b.size + 1
def Tr.leaves : Tr → List Int
  | .leaf v => [v]
  | .node a b => a.leaves ++ b.leaves
theorem Tr.size_pos : ∀ T : Tr, 0 < T.size
  | .leaf _ => Nat.one_pos
  | .node _ _ => Nat.succ_pos _
/-- The nodes of a tree in postorder, the first of them numbered n. -/
def post : Tr → Nat → List VN
  | .leaf v, _ => [⟨-1, -1, v⟩]
  | .node a b, n => post a n ++ (post b (n + a.size) ++ [⟨((n + a.size - 1 : Nat) : Int), ((n + a.size + b.size - 1 : Nat) : Int), 0⟩])
theorem post_len : ∀ (T : Tr) (n : Nat), (post T n).length = T.size
  | .leaf _, _ => rfl
  | .node a b, n => by simp only [post, List.length_append, List.length_cons, List.length_nil, post_len a, post_len b, Tr.size]; omega
/-- Node i of ts, its children turned by f, stands for a tree; the nodes met. -/
inductive At (ts : List VN) (f : Nat → Nat → Nat → Nat × Nat) : Nat → Tr → List Nat → Prop
  | leaf {i : Nat} {v : Int} : ts[i]? = some ⟨-1, -1, v⟩ → 1 ≤ v → v ≤ 128 → At ts f i (.leaf v) [i]
  | node {i a b a' b' : Nat} {A B : Tr} {va vb : List Nat} : ts[i]? = some ⟨(a : Int), (b : Int), 0⟩ → f i a b = (a', b') → At ts f a' A va → At ts f b' B vb → At ts f i (.node A B) (i :: (va ++ vb))
def idF : Nat → Nat → Nat → Nat × Nat := fun _ a b => (a, b)
theorem At.len {ts : List VN} {f : Nat → Nat → Nat → Nat × Nat} {i : Nat} {T : Tr} {vs : List Nat} (h : At ts f i T vs) : vs.length = T.size := by
  induction h with
  | leaf _ _ _ => rfl
  | node _ _ _ _ h1 h2 => simp only [List.length_cons, List.length_append, h1, h2, Tr.size]
structure Val (ts : List VN) : Prop where
  pos : 0 < ts.length
  le : ts.length ≤ 255
  kind : ∀ (i : Nat) (x : VN), ts[i]? = some x → (∃ v, x = ⟨-1, -1, v⟩ ∧ 1 ≤ v ∧ v ≤ 128) ∨ (∃ a b : Nat, x = ⟨(a : Int), (b : Int), 0⟩ ∧ a < i ∧ b < i ∧ a ≠ b)
  up : ∀ (i j a b a' b' k : Nat), ts[i]? = some ⟨(a : Int), (b : Int), 0⟩ → ts[j]? = some ⟨(a' : Int), (b' : Int), 0⟩ → (k = a ∨ k = b) → (k = a' ∨ k = b') → i = j
  vars : ∀ (i j : Nat) (v : Int), 1 ≤ v → v ≤ 128 → ts[i]? = some ⟨-1, -1, v⟩ → ts[j]? = some ⟨-1, -1, v⟩ → i = j
  cover : ∀ k, k < ts.length - 1 → ∃ i a b : Nat, ts[i]? = some ⟨(a : Int), (b : Int), 0⟩ ∧ (k = a ∨ k = b)
theorem kids_once {k : Int} : ∀ {ts : List VN} {i j : Nat} {x y : VN}, (kidsL ts).Nodup → ts[i]? = some x → ts[j]? = some y → k ∈ kidsOf x → k ∈ kidsOf y → i = j
  | [], i, _, _, _, _, hi, _, _, _ => by simp at hi
  | z :: r, i, j, x, y, h, hi, hj, hx, hy => by
    have e1 : kidsL (z :: r) = kidsOf z ++ kidsL r := by simp [kidsL]
    rw [e1] at h
    obtain ⟨_, h2, h3⟩ := List.nodup_append.1 h
    have mem : ∀ {q : Nat} {u : VN}, r[q]? = some u → k ∈ kidsOf u → k ∈ kidsL r := fun hq hu => List.mem_flatMap.2 ⟨_, List.mem_of_getElem? hq, hu⟩
    cases i with
    | zero =>
      cases j with
      | zero => rfl
      | succ j =>
        simp at hi hj; subst hi
        exact absurd rfl (h3 k hx k (mem hj hy))
    | succ i =>
      cases j with
      | zero =>
        simp at hi hj; subst hj
        exact absurd rfl (h3 k hy k (mem hi hx))
      | succ j =>
        simp at hi hj
        rw [kids_once h2 hi hj hx hy]
theorem vars_once {k : Int} : ∀ {ts : List VN} {i j : Nat} {x y : VN}, (varsL ts).Nodup → ts[i]? = some x → ts[j]? = some y → k ∈ varOf x → k ∈ varOf y → i = j
  | [], i, _, _, _, _, hi, _, _, _ => by simp at hi
  | z :: r, i, j, x, y, h, hi, hj, hx, hy => by
    have e1 : varsL (z :: r) = varOf z ++ varsL r := by simp [varsL]
    rw [e1] at h
    obtain ⟨_, h2, h3⟩ := List.nodup_append.1 h
    have mem : ∀ {q : Nat} {u : VN}, r[q]? = some u → k ∈ varOf u → k ∈ varsL r := fun hq hu => List.mem_flatMap.2 ⟨_, List.mem_of_getElem? hq, hu⟩
    cases i with
    | zero =>
      cases j with
      | zero => rfl
      | succ j =>
        simp at hi hj; subst hi
        exact absurd rfl (h3 k hx k (mem hj hy))
    | succ i =>
      cases j with
      | zero =>
        simp at hi hj; subst hj
        exact absurd rfl (h3 k hy k (mem hi hx))
      | succ j =>
        simp at hi hj
        rw [vars_once h2 hi hj hx hy]
theorem lf_inner (a b : Nat) : lf ⟨(a : Int), (b : Int), 0⟩ = false := by
  rw [Bool.eq_false_iff]; intro q
  have := ((lf_iff _).1 q).1
  dsimp only at this
  omega
theorem lf_leaf {v : Int} (h1 : 1 ≤ v) (h2 : v ≤ 128) : lf ⟨-1, -1, v⟩ = true := (lf_iff _).2 ⟨rfl, rfl, h1, h2⟩
theorem okT_val {ts : List VN} (h : okT ts = true) : Val ts := by
  obtain ⟨h0, h1, hp, hc⟩ := okT_parts.1 h
  unfold preB at hp
  simp only [Bool.and_eq_true, decide_eq_true_eq] at hp
  obtain ⟨⟨hn, hv⟩, hk⟩ := hp
  have hcv : ∀ k, k < ts.length - 1 → (k : Int) ∈ kidsL ts := by unfold coverB at hc; simpa using hc
  have inn : ∀ {i : Nat} {x : VN}, ts[i]? = some x → lf x = false → ∃ a b : Nat, x = ⟨(a : Int), (b : Int), 0⟩ ∧ a < i ∧ b < i := fun {i x} hi hx => by
    obtain ⟨h3, h4, h5, h6, h7⟩ := nodeB_inner ((nodesB_iff ts).1 hn i x hi) hx
    refine ⟨x.l.toNat, x.r.toNat, ?_, by omega, by omega⟩
    cases x
    simp only [VN.mk.injEq]
    dsimp only at *
    omega
  refine ⟨h0, h1, fun i x hi => ?_, fun i j a b a' b' k hi hj h1 h2 => ?_, fun i j v h1 h2 hi hj => ?_, fun k hk2 => ?_⟩
  · cases hx : lf x with
    | true =>
      left
      obtain ⟨_, _, h3, h4⟩ := (lf_iff x).1 hx
      exact ⟨x.v, lf_eq hx, h3, h4⟩
    | false =>
      right
      obtain ⟨a, b, rfl, ha, hb⟩ := inn hi hx
      refine ⟨a, b, rfl, ha, hb, ?_⟩
      rintro rfl
      have := kidsOf_nodup hk (List.mem_of_getElem? hi)
      unfold kidsOf at this
      rw [hx] at this
      simp at this
  · refine kids_once (k := (k : Int)) hk hi hj ?_ ?_
    · unfold kidsOf
      rw [lf_inner]
      rcases h1 with rfl | rfl <;> simp
    · unfold kidsOf
      rw [lf_inner]
      rcases h2 with rfl | rfl <;> simp
  · refine vars_once (k := v) hv hi hj ?_ ?_ <;> (unfold varOf; rw [lf_leaf h1 h2]; simp)
  · obtain ⟨i, x, hi, hx, hk3⟩ := mem_kids.1 (hcv k hk2)
    obtain ⟨a, b, rfl, _, _⟩ := inn hi hx
    exact ⟨i, a, b, hi, by dsimp only at hk3; omega⟩
section
variable {ts : List VN}
theorem At.exists_ (hV : Val ts) : ∀ (n i : Nat), i < n → i < ts.length → ∃ T vs, At ts idF i T vs
  | 0, _, h, _ => absurd h (Nat.not_lt_zero _)
  | n + 1, i, h, hi => by
    rcases hV.kind i _ (List.getElem?_eq_getElem hi) with ⟨v, hx, h1, h2⟩ | ⟨a, b, hx, ha, hb, _⟩
    · exact ⟨_, _, .leaf (by rw [List.getElem?_eq_getElem hi, hx]) h1 h2⟩
    · obtain ⟨A, va, hA⟩ := At.exists_ hV n a (by omega) (by omega)
      obtain ⟨B, vb, hB⟩ := At.exists_ hV n b (by omega) (by omega)
      exact ⟨_, _, .node (by rw [List.getElem?_eq_getElem hi, hx]) rfl hA hB⟩
theorem At.self {f : Nat → Nat → Nat → Nat × Nat} {i : Nat} {T : Tr} {vs : List Nat} (h : At ts f i T vs) : i ∈ vs := by cases h <;> simp
theorem At.lt_len {f : Nat → Nat → Nat → Nat × Nat} {i : Nat} {T : Tr} {vs : List Nat} (h : At ts f i T vs) : ∀ k ∈ vs, k < ts.length := by
  induction h with
  | leaf h _ _ =>
    intro k hk
    rw [List.mem_singleton.1 hk]
    exact (List.getElem?_eq_some_iff.1 h).1
  | node h _ _ _ h1 h2 =>
    intro k hk
    rcases List.mem_cons.1 hk with rfl | hk
    · exact (List.getElem?_eq_some_iff.1 h).1
    · rcases List.mem_append.1 hk with hk | hk
      · exact h1 k hk
      · exact h2 k hk
theorem At.le (hV : Val ts) {i : Nat} {T : Tr} {vs : List Nat} (h : At ts idF i T vs) : ∀ k ∈ vs, k ≤ i := by
  induction h with
  | leaf _ _ _ => intro k hk; rw [List.mem_singleton.1 hk]; exact Nat.le_refl _
  | node h hf _ _ h1 h2 =>
    injection hf with e1 e2
    subst e1 e2
    intro k hk
    rcases hV.kind _ _ h with ⟨v, hx, _⟩ | ⟨a, b, hx, ha, hb, _⟩
    · injection hx with hx _ _; omega
    · injection hx with e1 e2 _
      rcases List.mem_cons.1 hk with rfl | hk
      · exact Nat.le_refl _
      · rcases List.mem_append.1 hk with hk | hk
        · have := h1 k hk; omega
        · have := h2 k hk; omega
theorem At.par {i : Nat} {T : Tr} {vs : List Nat} (h : At ts idF i T vs) : ∀ k ∈ vs, k ≠ i → ∃ p a b : Nat, p ∈ vs ∧ ts[p]? = some ⟨(a : Int), (b : Int), 0⟩ ∧ (k = a ∨ k = b) := by
  induction h with
  | leaf _ _ _ => intro k hk hne; exact absurd (List.mem_singleton.1 hk) hne
  | @node i a b a' b' A B va vb h hf hA hB h1 h2 =>
    injection hf with e1 e2
    subst e1 e2
    intro k hk hne
    rcases List.mem_cons.1 hk with e | hk
    · exact absurd e hne
    · rcases List.mem_append.1 hk with hk | hk
      · by_cases e : k = a
        · exact ⟨i, a, b, by simp, h, .inl e⟩
        · obtain ⟨p, c, d, hp, q⟩ := h1 k hk e
          exact ⟨p, c, d, by simp [hp], q⟩
      · by_cases e : k = b
        · exact ⟨i, a, b, by simp, h, .inr e⟩
        · obtain ⟨p, c, d, hp, q⟩ := h2 k hk e
          exact ⟨p, c, d, by simp [hp], q⟩
theorem At.apart (hV : Val ts) {i a b : Nat} {A B : Tr} {va vb : List Nat} (h : ts[i]? = some ⟨(a : Int), (b : Int), 0⟩) (hA : At ts idF a A va) (hB : At ts idF b B vb) : ∀ (n k : Nat), ts.length ≤ k + n → k ∈ va → k ∈ vb → False
  | 0, k, hn, h1, _ => by have := hA.lt_len k h1; omega
  | n + 1, k, hn, h1, h2 => by
    have hab : a ≠ b ∧ a < i ∧ b < i := by
      rcases hV.kind _ _ h with ⟨v, hx, _⟩ | ⟨a', b', hx, ha, hb, hne⟩
      · injection hx with hx _ _; omega
      · injection hx with e1 e2 _
        omega
    by_cases e1 : k = a
    · subst e1
      obtain ⟨p, c, d, hp, hq, hk⟩ := hB.par k h2 hab.1
      have := hV.up p i c d k b k hq h hk (.inl rfl)
      have := hB.le hV p hp
      omega
    · by_cases e2 : k = b
      · subst e2
        obtain ⟨p, c, d, hp, hq, hk⟩ := hA.par k h1 (fun e => hab.1 e.symm)
        have := hV.up p i c d a k k hq h hk (.inr rfl)
        have := hA.le hV p hp
        omega
      · obtain ⟨p, c, d, hp, hq, hk⟩ := hA.par k h1 e1
        obtain ⟨p', c', d', hp', hq', hk'⟩ := hB.par k h2 e2
        obtain rfl := hV.up p p' c d c' d' k hq hq' hk hk'
        have hlt : k < p := by
          rcases hV.kind _ _ hq with ⟨v, hx, _⟩ | ⟨a', b', hx, ha, hb, _⟩
          · injection hx with hx _ _; omega
          · injection hx with e1 e2 _
            omega
        exact At.apart hV h hA hB n p (by omega) hp hp'
theorem At.nodup (hV : Val ts) {i : Nat} {T : Tr} {vs : List Nat} (h : At ts idF i T vs) : vs.Nodup := by
  induction h with
  | leaf _ _ _ => simp
  | @node i a b a' b' A B va vb h hf hA hB h1 h2 =>
    injection hf with e1 e2
    subst e1 e2
    have hlt : a < i ∧ b < i := by
      rcases hV.kind _ _ h with ⟨v, hx, _⟩ | ⟨a', b', hx, ha, hb, _⟩
      · injection hx with hx _ _; omega
      · injection hx with e1 e2 _
        omega
    refine List.nodup_cons.2 ⟨fun hm => ?_, List.nodup_append.2 ⟨h1, h2, fun k hk k' hk' e => ?_⟩⟩
    · rcases List.mem_append.1 hm with hm | hm
      · have := hA.le hV _ hm; omega
      · have := hB.le hV _ hm; omega
    · subst e
      exact At.apart hV h hA hB ts.length k (by omega) hk hk'
theorem At.small (hV : Val ts) {i : Nat} {T : Tr} {vs : List Nat} (h : At ts idF i T vs) : T.size ≤ ts.length := by
  rw [← h.len]
  have := sub_len (m := List.range ts.length) (h.nodup hV) (fun k hk => List.mem_range.2 (h.lt_len k hk))
  simpa using this
theorem At.leafAt {f : Nat → Nat → Nat → Nat × Nat} {i : Nat} {T : Tr} {vs : List Nat} (h : At ts f i T vs) : ∀ v ∈ T.leaves, 1 ≤ v ∧ v ≤ 128 ∧ ∃ k ∈ vs, ts[k]? = some ⟨-1, -1, v⟩ := by
  induction h with
  | leaf h h1 h2 => intro v hv; rw [List.mem_singleton.1 hv]; exact ⟨h1, h2, _, by simp, h⟩
  | node _ _ _ _ h1 h2 =>
    intro v hv
    rcases List.mem_append.1 hv with hv | hv
    · obtain ⟨q1, q2, k, hk, q3⟩ := h1 v hv
      exact ⟨q1, q2, k, by simp [hk], q3⟩
    · obtain ⟨q1, q2, k, hk, q3⟩ := h2 v hv
      exact ⟨q1, q2, k, by simp [hk], q3⟩
theorem At.leaves_nodup (hV : Val ts) {i : Nat} {T : Tr} {vs : List Nat} (h : At ts idF i T vs) : T.leaves.Nodup := by
  induction h with
  | leaf _ _ _ => simp [Tr.leaves]
  | @node i a b a' b' A B va vb h hf hA hB h1 h2 =>
    injection hf with e1 e2
    subst e1 e2
    refine List.nodup_append.2 ⟨h1, h2, fun v hv v' hv' e => ?_⟩
    subst e
    obtain ⟨q1, q2, k, hk, q3⟩ := hA.leafAt v hv
    obtain ⟨_, _, k', hk', q4⟩ := hB.leafAt v hv'
    obtain rfl := hV.vars k k' v q1 q2 q3 q4
    exact At.apart hV h hA hB ts.length k (by omega) hk hk'
end
end Go.Proofs.YtpeoodkepjhhiaaDoor
namespace Go.Proofs.YtpeoodkepjhhiaaDoor

/-- A number from 0 to 999 in decimal. -/
def dec (v : Int) : List UInt8 := if v < 10 then [UInt8.ofNat (48 + v.toNat)] else if v < 100 then [UInt8.ofNat (48 + v.toNat / 10), UInt8.ofNat (48 + v.toNat % 10)] else [UInt8.ofNat (48 + v.toNat / 100), UInt8.ofNat (48 + v.toNat / 10 % 10), UInt8.ofNat (48 + v.toNat % 10)]
theorem itoa_dec {v : Int} (h0 : 0 ≤ v) (h1 : v < 1000) : Go.Lib.itoa v = dec v := by
  unfold Go.Lib.itoa dec
  rw [if_neg (by omega)]
  by_cases h : v < 10
  · rw [if_pos h, Go.Lib.decDigits, dif_pos (by omega)]
  · rw [if_neg h]
    by_cases h' : v < 100
    · rw [if_pos h', Go.Lib.decDigits_two (by omega) (by omega)]
    · rw [if_neg h', Go.Lib.decDigits, dif_neg (by omega), Go.Lib.decDigits_two (by omega) (by omega)]
      have e : v.toNat / 10 / 10 = v.toNat / 100 := by omega
      rw [e]; rfl
theorem dec_len (v : Int) : 0 < (dec v).length ∧ (dec v).length ≤ 3 := by unfold dec; split <;> (try split) <;> simp
def textT : Tr → List UInt8
  | .leaf v => dec v
  | .node a b => 40 :: (textT a ++ 32 :: (textT b ++ [41]))
theorem textT_len : ∀ T : Tr, 0 < (textT T).length ∧ (textT T).length + 3 ≤ 6 * T.size
  | .leaf v => by have := dec_len v; simp only [textT, Tr.size]; omega
  | .node a b => by
    have h1 := textT_len a
    have h2 := textT_len b
    simp only [textT, Tr.size, List.length_cons, List.length_append, List.length_nil]
    omega
def trF (ts : List VN) : Nat → Nat → Tr
  | 0, _ => .leaf 0
  | n + 1, i => match ts[i]? with
    | none => .leaf 0
    | some x => if lf x then .leaf x.v else .node (trF ts n x.l.toNat) (trF ts n x.r.toNat)
def treeOf (ts : List VN) : Tr := trF ts ts.length (ts.length - 1)
section
variable {ts : List VN}
theorem At.tr (hV : Val ts) {i : Nat} {T : Tr} {vs : List Nat} (h : At ts idF i T vs) : ∀ n, i < n → trF ts n i = T := by
  induction h with
  | leaf h h1 h2 =>
    intro n hn
    obtain ⟨n, rfl⟩ : ∃ m, n = m + 1 := ⟨n - 1, by omega⟩
    unfold trF
    rw [h]
    simp [lf_leaf h1 h2]
  | @node i a b a' b' A B va vb h hf hA hB h1 h2 =>
    injection hf with e1 e2
    subst e1 e2
    intro n hn
    obtain ⟨n, rfl⟩ : ∃ m, n = m + 1 := ⟨n - 1, by omega⟩
    have hlt : a < i ∧ b < i := by
      rcases hV.kind _ _ h with ⟨v, hx, _⟩ | ⟨a', b', hx, ha, hb, _⟩
      · injection hx with hx _ _; omega
      · injection hx with e1 e2 _
        omega
    unfold trF
    rw [h]
    simp [lf_inner, h1 n (by omega), h2 n (by omega)]
theorem tree_at (h : okT ts = true) : ∃ vs, At ts idF (ts.length - 1) (treeOf ts) vs := by
  have hV := okT_val h
  have := hV.pos
  obtain ⟨T, vs, hA⟩ := At.exists_ hV ts.length (ts.length - 1) (by omega) (by omega)
  refine ⟨vs, ?_⟩
  unfold treeOf
  rwa [hA.tr hV ts.length (by omega)]
end
def printOf (ts : List VN) : List UInt8 := if okT ts then textT (treeOf ts) else []
end Go.Proofs.YtpeoodkepjhhiaaDoor
namespace Go.Proofs.YtpeoodkepjhhiaaDoor
open Go Go.RowKit
theorem below_grow {w : World} (k : Nat) (os : Array Obj) : Below w.heap.size w (Go.Sort.grow (w.drewN k) os) :=
  ⟨rfl, rfl, rfl, by simp [Go.Sort.grow], fun j hj => by simp only [Go.Sort.grow]; exact Array.getElem?_append_left hj⟩
theorem itoa_ {W : World} {v : Int} (h0 : 0 ≤ v) (h1 : v < 1000) (tab : Tab W) : Calls Tryd.prog 68 #[.int .i64 v] W fun e w' => e = .returned (.string ⟨(dec v).toArray⟩) ∧ Below W.heap.size W w' := by
  refine (Tryd.strconv_Itoa v (by omega) (by omega) W tab).mono ?_
  rintro _ _ ⟨rfl, k, os, rfl⟩
  rw [itoa_dec h0 h1]
  exact ⟨rfl, below_grow k os⟩
theorem pwrite_ {ts : List VN} {D : Nat → Prop} {tc bb fc b o c0 : Nat} : ∀ {i : Nat} {T : Tr} {vs : List Nat}, At ts idF i T vs → ∀ {Z : Bool → Nat → Prop} {w0 W : World} {A : Option Addr} {n c : Nat} {used : Bool} {l : List UInt8},
    Own Z w0 W [.blk tc 23 #[.slice (some ⟨b, o, none⟩) ts.length c0], .blk bb 82 #[addrB used bb, .slice A n c], .row (.slice A n c) 5 1 n (Lib.byteCells l), .blk fc 83 #[.func (.func 66) #[] #[.pointer (some ⟨tc, 0, none⟩), .pointer (some ⟨bb, 0, none⟩), .pointer (some ⟨fc, 0, none⟩)]], .ro D (fun w => NodesD D w (.slice (some ⟨b, o, none⟩) ts.length c0) ts), .ro TabD Tab] → n + 6 * T.size ≤ 1000000 →
    Calls Tryd.prog 66 #[.int .i64 (i : Int), .pointer (some ⟨tc, 0, none⟩), .pointer (some ⟨bb, 0, none⟩), .pointer (some ⟨fc, 0, none⟩)] W fun e w' => ∃ A' c', e = .returned (.tuple #[]) ∧ Own Z w0 w' [.blk tc 23 #[.slice (some ⟨b, o, none⟩) ts.length c0], .blk bb 82 #[addrB true bb, .slice A' (n + (textT T).length) c'], .row (.slice A' (n + (textT T).length) c') 5 1 (n + (textT T).length) (Lib.byteCells (l ++ textT T)), .blk fc 83 #[.func (.func 66) #[] #[.pointer (some ⟨tc, 0, none⟩), .pointer (some ⟨bb, 0, none⟩), .pointer (some ⟨fc, 0, none⟩)]], .ro D (fun w => NodesD D w (.slice (some ⟨b, o, none⟩) ts.length c0) ts), .ro TabD Tab] := by
  intro i T vs hAt
  induction hAt with
  | @leaf i v hx h1 h2 =>
    intro Z w0 W A n c used l O0 hlim
    have hi : i < ts.length := (List.getElem?_eq_some_iff.1 hx).1
    have hlf : lf (VN.mk (-1) (-1) v) = true := lf_leaf h1 h2
    simp only [Tr.size] at hlim
    refine sx_enter (args := [.int .i64 (i : Int), .pointer (some ⟨tc, 0, none⟩), .pointer (some ⟨bb, 0, none⟩), .pointer (some ⟨fc, 0, none⟩)]) Tryd.func66 rfl rfl (by simp) ?_
    refine cw_seq (fun FK1 K1 => ?_)
    refine cw_seq (fun FK2 K2 => ?_)
    refine cw_region ?_
    refine wl_val (v := .slice (some ⟨b, o, none⟩) ts.length c0) (fun ρ e => ex_load1 ty23 (e _ _ rfl) (O0.cell 0 0 rfl rfl)) rfl rfl ?_
    refine wl_val (v := .int .i64 (i : Int)) (fun ρ e => ex_move (e _ _ rfl)) rfl rfl ?_
    refine wl_val (v := .pointer (some ⟨b, o + i * 3, none⟩)) (fun ρ e => ex_idx (q := o + i * 3) (i := i) el23 (e _ _ rfl) (e _ _ rfl) (by omega) (by omega)) rfl rfl ?_
    refine wl_val (v := .agg #[.int .i64 (-1), .int .i64 (-1), .int .i64 v]) (fun ρ e => ex_loadN (vs := [.int .i64 (-1), .int .i64 (-1), .int .i64 v]) ty38 (e _ _ rfl) rfl (cells3 (NodesD.c0 ((O0.ro 4 rfl : (fun w => NodesD D w (.slice (some ⟨b, o, none⟩) ts.length c0) ts) _) : NodesD _ _ _ _) hx) (NodesD.c1 ((O0.ro 4 rfl : (fun w => NodesD D w (.slice (some ⟨b, o, none⟩) ts.length c0) ts) _) : NodesD _ _ _ _) hx) (NodesD.c2 ((O0.ro 4 rfl : (fun w => NodesD D w (.slice (some ⟨b, o, none⟩) ts.length c0) ts) _) : NodesD _ _ _ _) hx))) rfl rfl ?_
    refine wl_call (args := [.agg #[.int .i64 (-1), .int .i64 (-1), .int .i64 v]]) in_53 rfl rfl rfl ?_
    refine (isleaf_ (VN.mk (-1) (-1) v) (W := W)).mono ?_
    rintro _ w3 ⟨rfl, hb4⟩
    have O5 : Own Z w0 w3 [.blk tc 23 #[.slice (some ⟨b, o, none⟩) ts.length c0], .blk bb 82 #[addrB used bb, .slice A n c], .row (.slice A n c) 5 1 n (Lib.byteCells l), .blk fc 83 #[.func (.func 66) #[] #[.pointer (some ⟨tc, 0, none⟩), .pointer (some ⟨bb, 0, none⟩), .pointer (some ⟨fc, 0, none⟩)]], .ro D (fun w => NodesD D w (.slice (some ⟨b, o, none⟩) ts.length c0) ts), .ro TabD Tab] := O0.below hb4
    refine ⟨_, rfl, ?_⟩
    refine wl_nil ?_
    refine xw_next K2 ?_
    refine cw_true (congrArg (fun b => some (Value.bool b)) hlf) ?_
    refine cw_seq (fun FK6 K6 => ?_)
    refine cw_region ?_
    refine wl_val (v := .slice (some ⟨b, o, none⟩) ts.length c0) (fun ρ e => ex_load1 ty23 (e _ _ rfl) (O5.cell 0 0 rfl rfl)) rfl rfl ?_
    refine wl_val (v := .int .i64 (i : Int)) (fun ρ e => ex_move (e _ _ rfl)) rfl rfl ?_
    refine wl_val (v := .pointer (some ⟨b, o + i * 3, none⟩)) (fun ρ e => ex_idx (q := o + i * 3) (i := i) el23 (e _ _ rfl) (e _ _ rfl) (by omega) (by omega)) rfl rfl ?_
    refine wl_val (v := .pointer (some ⟨b, o + i * 3 + 2, none⟩)) (fun ρ e => ex_field (q := o + i * 3 + 2) fi38_2 (e _ _ rfl) rfl) rfl rfl ?_
    refine wl_val (v := .int .i64 v) (fun ρ e => ex_load1 ty3 (e _ _ rfl) (NodesD.c2 ((O5.ro 4 rfl : (fun w => NodesD D w (.slice (some ⟨b, o, none⟩) ts.length c0) ts) _) : NodesD _ _ _ _) hx)) rfl rfl ?_
    refine wl_call (args := [.int .i64 v]) in_68 rfl rfl rfl ?_
    refine (itoa_ (v := v) (by omega) (by omega) (O5.ro 5 rfl)).mono ?_
    rintro _ w7 ⟨rfl, hb8⟩
    have O9 : Own Z w0 w7 [.blk tc 23 #[.slice (some ⟨b, o, none⟩) ts.length c0], .blk bb 82 #[addrB used bb, .slice A n c], .row (.slice A n c) 5 1 n (Lib.byteCells l), .blk fc 83 #[.func (.func 66) #[] #[.pointer (some ⟨tc, 0, none⟩), .pointer (some ⟨bb, 0, none⟩), .pointer (some ⟨fc, 0, none⟩)]], .ro D (fun w => NodesD D w (.slice (some ⟨b, o, none⟩) ts.length c0) ts), .ro TabD Tab] := O5.below hb8
    refine ⟨_, rfl, ?_⟩
    refine wl_call (args := [.pointer (some ⟨bb, 0, none⟩), .string (⟨(dec v).toArray⟩)]) in_67 rfl rfl rfl ?_
    have O14h := Own.hand (A := [.blk bb 82 #[addrB used bb, .slice A n c], .row (.slice A n c) 5 1 n (Lib.byteCells l)]) (R := [.blk tc 23 #[.slice (some ⟨b, o, none⟩) ts.length c0], .blk fc 83 #[.func (.func 66) #[] #[.pointer (some ⟨tc, 0, none⟩), .pointer (some ⟨bb, 0, none⟩), .pointer (some ⟨fc, 0, none⟩)]], .ro D (fun w => NodesD D w (.slice (some ⟨b, o, none⟩) ts.length c0) ts), .ro TabD Tab]) (O9.re [1, 2, 0, 3, 4, 5] rfl : Own Z w0 w7 [.blk bb 82 #[addrB used bb, .slice A n c], .row (.slice A n c) 5 1 n (Lib.byteCells l), .blk tc 23 #[.slice (some ⟨b, o, none⟩) ts.length c0], .blk fc 83 #[.func (.func 66) #[] #[.pointer (some ⟨tc, 0, none⟩), .pointer (some ⟨bb, 0, none⟩), .pointer (some ⟨fc, 0, none⟩)]], .ro D (fun w => NodesD D w (.slice (some ⟨b, o, none⟩) ts.length c0) ts), .ro TabD Tab])
    refine (wstr_ (used := used) (l := l) ⟨(dec v).toArray⟩ O14h (by show n + (dec v).length ≤ _; have := dec_len v; omega) (dec_len v).1).mono ?_
    rintro _ w12 ⟨A10, c11, rfl, h13⟩
    have O14 : Own Z w0 w12 [.blk bb 82 #[addrB true bb, .slice A10 (n + (dec v).length) c11], .row (.slice A10 (n + (dec v).length) c11) 5 1 (n + (dec v).length) (Lib.byteCells (l ++ dec v)), .blk tc 23 #[.slice (some ⟨b, o, none⟩) ts.length c0], .blk fc 83 #[.func (.func 66) #[] #[.pointer (some ⟨tc, 0, none⟩), .pointer (some ⟨bb, 0, none⟩), .pointer (some ⟨fc, 0, none⟩)]], .ro D (fun w => NodesD D w (.slice (some ⟨b, o, none⟩) ts.length c0) ts), .ro TabD Tab] := Own.frame (A := [.blk bb 82 #[addrB used bb, .slice A n c], .row (.slice A n c) 5 1 n (Lib.byteCells l)]) (R := [.blk tc 23 #[.slice (some ⟨b, o, none⟩) ts.length c0], .blk fc 83 #[.func (.func 66) #[] #[.pointer (some ⟨tc, 0, none⟩), .pointer (some ⟨bb, 0, none⟩), .pointer (some ⟨fc, 0, none⟩)]], .ro D (fun w => NodesD D w (.slice (some ⟨b, o, none⟩) ts.length c0) ts), .ro TabD Tab]) (O9.re [1, 2, 0, 3, 4, 5] rfl : Own Z w0 w7 [.blk bb 82 #[addrB used bb, .slice A n c], .row (.slice A n c) 5 1 n (Lib.byteCells l), .blk tc 23 #[.slice (some ⟨b, o, none⟩) ts.length c0], .blk fc 83 #[.func (.func 66) #[] #[.pointer (some ⟨tc, 0, none⟩), .pointer (some ⟨bb, 0, none⟩), .pointer (some ⟨fc, 0, none⟩)]], .ro D (fun w => NodesD D w (.slice (some ⟨b, o, none⟩) ts.length c0) ts), .ro TabD Tab]) h13
    refine ⟨_, rfl, ?_⟩
    refine wl_nil ?_
    refine xw_next K6 ?_
    refine cw_ret ?_
    refine xw_past (by intro h; cases h) ?_
    refine xw_ret (v := .tuple #[]) (fun T hT => res0 rfl T _) ?_
    have hn : (n + (dec v).length) = n + (textT (.leaf v)).length := by simp only [textT, List.length_cons, List.length_append, List.length_nil] <;> omega
    have hl : (l ++ dec v) = l ++ textT (.leaf v) := by simp [textT]
    have hO := (O14.re [2, 0, 1, 3, 4, 5] rfl : Own Z w0 w12 [.blk tc 23 #[.slice (some ⟨b, o, none⟩) ts.length c0], .blk bb 82 #[addrB true bb, .slice A10 (n + (dec v).length) c11], .row (.slice A10 (n + (dec v).length) c11) 5 1 (n + (dec v).length) (Lib.byteCells (l ++ dec v)), .blk fc 83 #[.func (.func 66) #[] #[.pointer (some ⟨tc, 0, none⟩), .pointer (some ⟨bb, 0, none⟩), .pointer (some ⟨fc, 0, none⟩)]], .ro D (fun w => NodesD D w (.slice (some ⟨b, o, none⟩) ts.length c0) ts), .ro TabD Tab])
    rw [hn, hl] at hO
    exact ⟨A10, c11, rfl, hO⟩
  | @node i a b2 a' b' A1 B1 va vb hx hf hA hB ihA ihB =>
    intro Z w0 W A n c used l O0 hlim
    have hi : i < ts.length := (List.getElem?_eq_some_iff.1 hx).1
    have hlf : lf (VN.mk (a : Int) (b2 : Int) 0) = false := lf_inner a b2
    simp only [Tr.size] at hlim
    injection hf with e1 e2
    subst e1 e2
    have hla := textT_len A1
    have hlb := textT_len B1
    have hwa : (0 : Int) ≤ 1 := by decide
    refine sx_enter (args := [.int .i64 (i : Int), .pointer (some ⟨tc, 0, none⟩), .pointer (some ⟨bb, 0, none⟩), .pointer (some ⟨fc, 0, none⟩)]) Tryd.func66 rfl rfl (by simp) ?_
    refine cw_seq (fun FK1 K1 => ?_)
    refine cw_seq (fun FK2 K2 => ?_)
    refine cw_region ?_
    refine wl_val (v := .slice (some ⟨b, o, none⟩) ts.length c0) (fun ρ e => ex_load1 ty23 (e _ _ rfl) (O0.cell 0 0 rfl rfl)) rfl rfl ?_
    refine wl_val (v := .int .i64 (i : Int)) (fun ρ e => ex_move (e _ _ rfl)) rfl rfl ?_
    refine wl_val (v := .pointer (some ⟨b, o + i * 3, none⟩)) (fun ρ e => ex_idx (q := o + i * 3) (i := i) el23 (e _ _ rfl) (e _ _ rfl) (by omega) (by omega)) rfl rfl ?_
    refine wl_val (v := .agg #[.int .i64 (a : Int), .int .i64 (b2 : Int), .int .i64 0]) (fun ρ e => ex_loadN (vs := [.int .i64 (a : Int), .int .i64 (b2 : Int), .int .i64 0]) ty38 (e _ _ rfl) rfl (cells3 (NodesD.c0 ((O0.ro 4 rfl : (fun w => NodesD D w (.slice (some ⟨b, o, none⟩) ts.length c0) ts) _) : NodesD _ _ _ _) hx) (NodesD.c1 ((O0.ro 4 rfl : (fun w => NodesD D w (.slice (some ⟨b, o, none⟩) ts.length c0) ts) _) : NodesD _ _ _ _) hx) (NodesD.c2 ((O0.ro 4 rfl : (fun w => NodesD D w (.slice (some ⟨b, o, none⟩) ts.length c0) ts) _) : NodesD _ _ _ _) hx))) rfl rfl ?_
    refine wl_call (args := [.agg #[.int .i64 (a : Int), .int .i64 (b2 : Int), .int .i64 0]]) in_53 rfl rfl rfl ?_
    refine (isleaf_ (VN.mk (a : Int) (b2 : Int) 0) (W := W)).mono ?_
    rintro _ w3 ⟨rfl, hb4⟩
    have O5 : Own Z w0 w3 [.blk tc 23 #[.slice (some ⟨b, o, none⟩) ts.length c0], .blk bb 82 #[addrB used bb, .slice A n c], .row (.slice A n c) 5 1 n (Lib.byteCells l), .blk fc 83 #[.func (.func 66) #[] #[.pointer (some ⟨tc, 0, none⟩), .pointer (some ⟨bb, 0, none⟩), .pointer (some ⟨fc, 0, none⟩)]], .ro D (fun w => NodesD D w (.slice (some ⟨b, o, none⟩) ts.length c0) ts), .ro TabD Tab] := O0.below hb4
    refine ⟨_, rfl, ?_⟩
    refine wl_nil ?_
    refine xw_next K2 ?_
    refine cw_false (congrArg (fun b => some (Value.bool b)) hlf) ?_
    refine cw_skip ?_
    refine xw_next K1 ?_
    refine cw_seq (fun FK6 K6 => ?_)
    refine cw_region ?_
    refine wl_call (args := [.pointer (some ⟨bb, 0, none⟩), .int .u8 40]) in_69 rfl rfl rfl ?_
    have O11h := Own.hand (A := [.blk bb 82 #[addrB used bb, .slice A n c], .row (.slice A n c) 5 1 n (Lib.byteCells l)]) (R := [.blk tc 23 #[.slice (some ⟨b, o, none⟩) ts.length c0], .blk fc 83 #[.func (.func 66) #[] #[.pointer (some ⟨tc, 0, none⟩), .pointer (some ⟨bb, 0, none⟩), .pointer (some ⟨fc, 0, none⟩)]], .ro D (fun w => NodesD D w (.slice (some ⟨b, o, none⟩) ts.length c0) ts), .ro TabD Tab]) (O5.re [1, 2, 0, 3, 4, 5] rfl : Own Z w0 w3 [.blk bb 82 #[addrB used bb, .slice A n c], .row (.slice A n c) 5 1 n (Lib.byteCells l), .blk tc 23 #[.slice (some ⟨b, o, none⟩) ts.length c0], .blk fc 83 #[.func (.func 66) #[] #[.pointer (some ⟨tc, 0, none⟩), .pointer (some ⟨bb, 0, none⟩), .pointer (some ⟨fc, 0, none⟩)]], .ro D (fun w => NodesD D w (.slice (some ⟨b, o, none⟩) ts.length c0) ts), .ro TabD Tab])
    refine (wbyte_ (used := used) (l := l) 40 O11h (by omega)).mono ?_
    rintro _ w9 ⟨A7, c8, rfl, h10⟩
    have O11 : Own Z w0 w9 [.blk bb 82 #[addrB true bb, .slice A7 (n + 1) c8], .row (.slice A7 (n + 1) c8) 5 1 (n + 1) (Lib.byteCells (l ++ [40])), .blk tc 23 #[.slice (some ⟨b, o, none⟩) ts.length c0], .blk fc 83 #[.func (.func 66) #[] #[.pointer (some ⟨tc, 0, none⟩), .pointer (some ⟨bb, 0, none⟩), .pointer (some ⟨fc, 0, none⟩)]], .ro D (fun w => NodesD D w (.slice (some ⟨b, o, none⟩) ts.length c0) ts), .ro TabD Tab] := Own.frame (A := [.blk bb 82 #[addrB used bb, .slice A n c], .row (.slice A n c) 5 1 n (Lib.byteCells l)]) (R := [.blk tc 23 #[.slice (some ⟨b, o, none⟩) ts.length c0], .blk fc 83 #[.func (.func 66) #[] #[.pointer (some ⟨tc, 0, none⟩), .pointer (some ⟨bb, 0, none⟩), .pointer (some ⟨fc, 0, none⟩)]], .ro D (fun w => NodesD D w (.slice (some ⟨b, o, none⟩) ts.length c0) ts), .ro TabD Tab]) (O5.re [1, 2, 0, 3, 4, 5] rfl : Own Z w0 w3 [.blk bb 82 #[addrB used bb, .slice A n c], .row (.slice A n c) 5 1 n (Lib.byteCells l), .blk tc 23 #[.slice (some ⟨b, o, none⟩) ts.length c0], .blk fc 83 #[.func (.func 66) #[] #[.pointer (some ⟨tc, 0, none⟩), .pointer (some ⟨bb, 0, none⟩), .pointer (some ⟨fc, 0, none⟩)]], .ro D (fun w => NodesD D w (.slice (some ⟨b, o, none⟩) ts.length c0) ts), .ro TabD Tab]) h10
    refine ⟨_, rfl, ?_⟩
    refine wl_nil ?_
    refine xw_next K6 ?_
    refine cw_seq (fun FK12 K12 => ?_)
    refine cw_drawn (fun X => Own Z w0 X [.blk tc 23 #[.slice (some ⟨b, o, none⟩) ts.length c0], .blk fc 83 #[.func (.func 66) #[] #[.pointer (some ⟨tc, 0, none⟩), .pointer (some ⟨bb, 0, none⟩), .pointer (some ⟨fc, 0, none⟩)]], .ro D (fun w => NodesD D w (.slice (some ⟨b, o, none⟩) ts.length c0) ts), .ro TabD Tab]) 7 [(0, 0), (1, 0), (2, 1), (3, 1), (4, 1), (5, 0), (6, 2)] (by kernel_rfl) (by kernel_rfl) (PQ.then_ PQ.body) ((O11.re [2, 3, 4, 5] rfl : Own Z w0 w9 [.blk tc 23 #[.slice (some ⟨b, o, none⟩) ts.length c0], .blk fc 83 #[.func (.func 66) #[] #[.pointer (some ⟨tc, 0, none⟩), .pointer (some ⟨bb, 0, none⟩), .pointer (some ⟨fc, 0, none⟩)]], .ro D (fun w => NodesD D w (.slice (some ⟨b, o, none⟩) ts.length c0) ts), .ro TabD Tab])).drew ?_
    have O13 : Own Z w0 w9.drew [.blk bb 82 #[addrB true bb, .slice A7 (n + 1) c8], .row (.slice A7 (n + 1) c8) 5 1 (n + 1) (Lib.byteCells (l ++ [40])), .blk tc 23 #[.slice (some ⟨b, o, none⟩) ts.length c0], .blk fc 83 #[.func (.func 66) #[] #[.pointer (some ⟨tc, 0, none⟩), .pointer (some ⟨bb, 0, none⟩), .pointer (some ⟨fc, 0, none⟩)]], .ro D (fun w => NodesD D w (.slice (some ⟨b, o, none⟩) ts.length c0) ts), .ro TabD Tab] := O11.drew
    refine wt0 (v := .func (.func 66) #[] #[.pointer (some ⟨tc, 0, none⟩), .pointer (some ⟨bb, 0, none⟩), .pointer (some ⟨fc, 0, none⟩)]) rfl (fun ρ e W hW => ex_load1 ty83 (e _ _ rfl) (hW.cell 1 0 rfl rfl)) rfl rfl ?_
    refine wt0 (v := .slice (some ⟨b, o, none⟩) ts.length c0) rfl (fun ρ e W hW => ex_load1 ty23 (e _ _ rfl) (hW.cell 0 0 rfl rfl)) rfl rfl ?_
    refine wt1 (v := .int .i64 (i : Int)) rfl (fun ρ e W => ex_move (e _ _ rfl)) rfl rfl ?_
    refine wt1 (v := .pointer (some ⟨b, o + i * 3, none⟩)) rfl (fun ρ e W => ex_idx (q := o + i * 3) (i := i) el23 (e _ _ rfl) (e _ _ rfl) (by omega) (by omega)) rfl rfl ?_
    refine wt1 (v := .pointer (some ⟨b, o + i * 3, none⟩)) rfl (fun ρ e W => ex_field (q := o + i * 3) fi38_0 (e _ _ rfl) rfl) rfl rfl ?_
    refine wt0 (v := .int .i64 (a : Int)) rfl (fun ρ e W hW => ex_load1 ty3 (e _ _ rfl) (NodesD.c0 ((hW.ro 2 rfl : (fun w => NodesD D w (.slice (some ⟨b, o, none⟩) ts.length c0) ts) _) : NodesD _ _ _ _) hx)) rfl rfl ?_
    refine wt2_callv (args := [.int .i64 (a : Int)]) (all := [.int .i64 (a : Int), .pointer (some ⟨tc, 0, none⟩), .pointer (some ⟨bb, 0, none⟩), .pointer (some ⟨fc, 0, none⟩)]) rfl in_66 rfl rfl rfl rfl rfl ?_
    have O18h := Own.hand (A := [.blk tc 23 #[.slice (some ⟨b, o, none⟩) ts.length c0], .blk bb 82 #[addrB true bb, .slice A7 (n + 1) c8], .row (.slice A7 (n + 1) c8) 5 1 (n + 1) (Lib.byteCells (l ++ [40])), .blk fc 83 #[.func (.func 66) #[] #[.pointer (some ⟨tc, 0, none⟩), .pointer (some ⟨bb, 0, none⟩), .pointer (some ⟨fc, 0, none⟩)]], .ro D (fun w => NodesD D w (.slice (some ⟨b, o, none⟩) ts.length c0) ts), .ro TabD Tab]) (R := []) (O13.re [2, 0, 1, 3, 4, 5] rfl : Own Z w0 w9.drew [.blk tc 23 #[.slice (some ⟨b, o, none⟩) ts.length c0], .blk bb 82 #[addrB true bb, .slice A7 (n + 1) c8], .row (.slice A7 (n + 1) c8) 5 1 (n + 1) (Lib.byteCells (l ++ [40])), .blk fc 83 #[.func (.func 66) #[] #[.pointer (some ⟨tc, 0, none⟩), .pointer (some ⟨bb, 0, none⟩), .pointer (some ⟨fc, 0, none⟩)]], .ro D (fun w => NodesD D w (.slice (some ⟨b, o, none⟩) ts.length c0) ts), .ro TabD Tab])
    refine (ihA (used := true) (l := (l ++ [40])) O18h (by omega)).mono ?_
    rintro _ w16 ⟨A14, c15, rfl, h17⟩
    have O18 : Own Z w0 w16 [.blk tc 23 #[.slice (some ⟨b, o, none⟩) ts.length c0], .blk bb 82 #[addrB true bb, .slice A14 ((n + 1) + (textT A1).length) c15], .row (.slice A14 ((n + 1) + (textT A1).length) c15) 5 1 ((n + 1) + (textT A1).length) (Lib.byteCells ((l ++ [40]) ++ textT A1)), .blk fc 83 #[.func (.func 66) #[] #[.pointer (some ⟨tc, 0, none⟩), .pointer (some ⟨bb, 0, none⟩), .pointer (some ⟨fc, 0, none⟩)]], .ro D (fun w => NodesD D w (.slice (some ⟨b, o, none⟩) ts.length c0) ts), .ro TabD Tab] := Own.frame (A := [.blk tc 23 #[.slice (some ⟨b, o, none⟩) ts.length c0], .blk bb 82 #[addrB true bb, .slice A7 (n + 1) c8], .row (.slice A7 (n + 1) c8) 5 1 (n + 1) (Lib.byteCells (l ++ [40])), .blk fc 83 #[.func (.func 66) #[] #[.pointer (some ⟨tc, 0, none⟩), .pointer (some ⟨bb, 0, none⟩), .pointer (some ⟨fc, 0, none⟩)]], .ro D (fun w => NodesD D w (.slice (some ⟨b, o, none⟩) ts.length c0) ts), .ro TabD Tab]) (R := []) (O13.re [2, 0, 1, 3, 4, 5] rfl : Own Z w0 w9.drew [.blk tc 23 #[.slice (some ⟨b, o, none⟩) ts.length c0], .blk bb 82 #[addrB true bb, .slice A7 (n + 1) c8], .row (.slice A7 (n + 1) c8) 5 1 (n + 1) (Lib.byteCells (l ++ [40])), .blk fc 83 #[.func (.func 66) #[] #[.pointer (some ⟨tc, 0, none⟩), .pointer (some ⟨bb, 0, none⟩), .pointer (some ⟨fc, 0, none⟩)]], .ro D (fun w => NodesD D w (.slice (some ⟨b, o, none⟩) ts.length c0) ts), .ro TabD Tab]) h17
    refine ⟨_, rfl, (O18.re [0, 3, 4, 5] rfl : Own Z w0 w16 [.blk tc 23 #[.slice (some ⟨b, o, none⟩) ts.length c0], .blk fc 83 #[.func (.func 66) #[] #[.pointer (some ⟨tc, 0, none⟩), .pointer (some ⟨bb, 0, none⟩), .pointer (some ⟨fc, 0, none⟩)]], .ro D (fun w => NodesD D w (.slice (some ⟨b, o, none⟩) ts.length c0) ts), .ro TabD Tab]), ?_⟩
    refine wt_nil ?_
    refine xw_next K12 ?_
    refine cw_seq (fun FK19 K19 => ?_)
    refine cw_region ?_
    refine wl_call (args := [.pointer (some ⟨bb, 0, none⟩), .int .u8 32]) in_69 rfl rfl rfl ?_
    have O24h := Own.hand (A := [.blk bb 82 #[addrB true bb, .slice A14 ((n + 1) + (textT A1).length) c15], .row (.slice A14 ((n + 1) + (textT A1).length) c15) 5 1 ((n + 1) + (textT A1).length) (Lib.byteCells ((l ++ [40]) ++ textT A1))]) (R := [.blk tc 23 #[.slice (some ⟨b, o, none⟩) ts.length c0], .blk fc 83 #[.func (.func 66) #[] #[.pointer (some ⟨tc, 0, none⟩), .pointer (some ⟨bb, 0, none⟩), .pointer (some ⟨fc, 0, none⟩)]], .ro D (fun w => NodesD D w (.slice (some ⟨b, o, none⟩) ts.length c0) ts), .ro TabD Tab]) (O18.re [1, 2, 0, 3, 4, 5] rfl : Own Z w0 w16 [.blk bb 82 #[addrB true bb, .slice A14 ((n + 1) + (textT A1).length) c15], .row (.slice A14 ((n + 1) + (textT A1).length) c15) 5 1 ((n + 1) + (textT A1).length) (Lib.byteCells ((l ++ [40]) ++ textT A1)), .blk tc 23 #[.slice (some ⟨b, o, none⟩) ts.length c0], .blk fc 83 #[.func (.func 66) #[] #[.pointer (some ⟨tc, 0, none⟩), .pointer (some ⟨bb, 0, none⟩), .pointer (some ⟨fc, 0, none⟩)]], .ro D (fun w => NodesD D w (.slice (some ⟨b, o, none⟩) ts.length c0) ts), .ro TabD Tab])
    refine (wbyte_ (used := true) (l := ((l ++ [40]) ++ textT A1)) 32 O24h (by omega)).mono ?_
    rintro _ w22 ⟨A20, c21, rfl, h23⟩
    have O24 : Own Z w0 w22 [.blk bb 82 #[addrB true bb, .slice A20 (((n + 1) + (textT A1).length) + 1) c21], .row (.slice A20 (((n + 1) + (textT A1).length) + 1) c21) 5 1 (((n + 1) + (textT A1).length) + 1) (Lib.byteCells (((l ++ [40]) ++ textT A1) ++ [32])), .blk tc 23 #[.slice (some ⟨b, o, none⟩) ts.length c0], .blk fc 83 #[.func (.func 66) #[] #[.pointer (some ⟨tc, 0, none⟩), .pointer (some ⟨bb, 0, none⟩), .pointer (some ⟨fc, 0, none⟩)]], .ro D (fun w => NodesD D w (.slice (some ⟨b, o, none⟩) ts.length c0) ts), .ro TabD Tab] := Own.frame (A := [.blk bb 82 #[addrB true bb, .slice A14 ((n + 1) + (textT A1).length) c15], .row (.slice A14 ((n + 1) + (textT A1).length) c15) 5 1 ((n + 1) + (textT A1).length) (Lib.byteCells ((l ++ [40]) ++ textT A1))]) (R := [.blk tc 23 #[.slice (some ⟨b, o, none⟩) ts.length c0], .blk fc 83 #[.func (.func 66) #[] #[.pointer (some ⟨tc, 0, none⟩), .pointer (some ⟨bb, 0, none⟩), .pointer (some ⟨fc, 0, none⟩)]], .ro D (fun w => NodesD D w (.slice (some ⟨b, o, none⟩) ts.length c0) ts), .ro TabD Tab]) (O18.re [1, 2, 0, 3, 4, 5] rfl : Own Z w0 w16 [.blk bb 82 #[addrB true bb, .slice A14 ((n + 1) + (textT A1).length) c15], .row (.slice A14 ((n + 1) + (textT A1).length) c15) 5 1 ((n + 1) + (textT A1).length) (Lib.byteCells ((l ++ [40]) ++ textT A1)), .blk tc 23 #[.slice (some ⟨b, o, none⟩) ts.length c0], .blk fc 83 #[.func (.func 66) #[] #[.pointer (some ⟨tc, 0, none⟩), .pointer (some ⟨bb, 0, none⟩), .pointer (some ⟨fc, 0, none⟩)]], .ro D (fun w => NodesD D w (.slice (some ⟨b, o, none⟩) ts.length c0) ts), .ro TabD Tab]) h23
    refine ⟨_, rfl, ?_⟩
    refine wl_nil ?_
    refine xw_next K19 ?_
    refine cw_seq (fun FK25 K25 => ?_)
    refine cw_drawn (fun X => Own Z w0 X [.blk tc 23 #[.slice (some ⟨b, o, none⟩) ts.length c0], .blk fc 83 #[.func (.func 66) #[] #[.pointer (some ⟨tc, 0, none⟩), .pointer (some ⟨bb, 0, none⟩), .pointer (some ⟨fc, 0, none⟩)]], .ro D (fun w => NodesD D w (.slice (some ⟨b, o, none⟩) ts.length c0) ts), .ro TabD Tab]) 7 [(0, 0), (1, 0), (2, 1), (3, 1), (4, 1), (5, 0), (6, 2)] (by kernel_rfl) (by kernel_rfl) (PQ.then_ PQ.body) ((O24.re [2, 3, 4, 5] rfl : Own Z w0 w22 [.blk tc 23 #[.slice (some ⟨b, o, none⟩) ts.length c0], .blk fc 83 #[.func (.func 66) #[] #[.pointer (some ⟨tc, 0, none⟩), .pointer (some ⟨bb, 0, none⟩), .pointer (some ⟨fc, 0, none⟩)]], .ro D (fun w => NodesD D w (.slice (some ⟨b, o, none⟩) ts.length c0) ts), .ro TabD Tab])).drew ?_
    have O26 : Own Z w0 w22.drew [.blk bb 82 #[addrB true bb, .slice A20 (((n + 1) + (textT A1).length) + 1) c21], .row (.slice A20 (((n + 1) + (textT A1).length) + 1) c21) 5 1 (((n + 1) + (textT A1).length) + 1) (Lib.byteCells (((l ++ [40]) ++ textT A1) ++ [32])), .blk tc 23 #[.slice (some ⟨b, o, none⟩) ts.length c0], .blk fc 83 #[.func (.func 66) #[] #[.pointer (some ⟨tc, 0, none⟩), .pointer (some ⟨bb, 0, none⟩), .pointer (some ⟨fc, 0, none⟩)]], .ro D (fun w => NodesD D w (.slice (some ⟨b, o, none⟩) ts.length c0) ts), .ro TabD Tab] := O24.drew
    refine wt0 (v := .func (.func 66) #[] #[.pointer (some ⟨tc, 0, none⟩), .pointer (some ⟨bb, 0, none⟩), .pointer (some ⟨fc, 0, none⟩)]) rfl (fun ρ e W hW => ex_load1 ty83 (e _ _ rfl) (hW.cell 1 0 rfl rfl)) rfl rfl ?_
    refine wt0 (v := .slice (some ⟨b, o, none⟩) ts.length c0) rfl (fun ρ e W hW => ex_load1 ty23 (e _ _ rfl) (hW.cell 0 0 rfl rfl)) rfl rfl ?_
    refine wt1 (v := .int .i64 (i : Int)) rfl (fun ρ e W => ex_move (e _ _ rfl)) rfl rfl ?_
    refine wt1 (v := .pointer (some ⟨b, o + i * 3, none⟩)) rfl (fun ρ e W => ex_idx (q := o + i * 3) (i := i) el23 (e _ _ rfl) (e _ _ rfl) (by omega) (by omega)) rfl rfl ?_
    refine wt1 (v := .pointer (some ⟨b, o + i * 3 + 1, none⟩)) rfl (fun ρ e W => ex_field (q := o + i * 3 + 1) fi38_1 (e _ _ rfl) rfl) rfl rfl ?_
    refine wt0 (v := .int .i64 (b2 : Int)) rfl (fun ρ e W hW => ex_load1 ty3 (e _ _ rfl) (NodesD.c1 ((hW.ro 2 rfl : (fun w => NodesD D w (.slice (some ⟨b, o, none⟩) ts.length c0) ts) _) : NodesD _ _ _ _) hx)) rfl rfl ?_
    refine wt2_callv (args := [.int .i64 (b2 : Int)]) (all := [.int .i64 (b2 : Int), .pointer (some ⟨tc, 0, none⟩), .pointer (some ⟨bb, 0, none⟩), .pointer (some ⟨fc, 0, none⟩)]) rfl in_66 rfl rfl rfl rfl rfl ?_
    have O31h := Own.hand (A := [.blk tc 23 #[.slice (some ⟨b, o, none⟩) ts.length c0], .blk bb 82 #[addrB true bb, .slice A20 (((n + 1) + (textT A1).length) + 1) c21], .row (.slice A20 (((n + 1) + (textT A1).length) + 1) c21) 5 1 (((n + 1) + (textT A1).length) + 1) (Lib.byteCells (((l ++ [40]) ++ textT A1) ++ [32])), .blk fc 83 #[.func (.func 66) #[] #[.pointer (some ⟨tc, 0, none⟩), .pointer (some ⟨bb, 0, none⟩), .pointer (some ⟨fc, 0, none⟩)]], .ro D (fun w => NodesD D w (.slice (some ⟨b, o, none⟩) ts.length c0) ts), .ro TabD Tab]) (R := []) (O26.re [2, 0, 1, 3, 4, 5] rfl : Own Z w0 w22.drew [.blk tc 23 #[.slice (some ⟨b, o, none⟩) ts.length c0], .blk bb 82 #[addrB true bb, .slice A20 (((n + 1) + (textT A1).length) + 1) c21], .row (.slice A20 (((n + 1) + (textT A1).length) + 1) c21) 5 1 (((n + 1) + (textT A1).length) + 1) (Lib.byteCells (((l ++ [40]) ++ textT A1) ++ [32])), .blk fc 83 #[.func (.func 66) #[] #[.pointer (some ⟨tc, 0, none⟩), .pointer (some ⟨bb, 0, none⟩), .pointer (some ⟨fc, 0, none⟩)]], .ro D (fun w => NodesD D w (.slice (some ⟨b, o, none⟩) ts.length c0) ts), .ro TabD Tab])
    refine (ihB (used := true) (l := (((l ++ [40]) ++ textT A1) ++ [32])) O31h (by omega)).mono ?_
    rintro _ w29 ⟨A27, c28, rfl, h30⟩
    have O31 : Own Z w0 w29 [.blk tc 23 #[.slice (some ⟨b, o, none⟩) ts.length c0], .blk bb 82 #[addrB true bb, .slice A27 ((((n + 1) + (textT A1).length) + 1) + (textT B1).length) c28], .row (.slice A27 ((((n + 1) + (textT A1).length) + 1) + (textT B1).length) c28) 5 1 ((((n + 1) + (textT A1).length) + 1) + (textT B1).length) (Lib.byteCells ((((l ++ [40]) ++ textT A1) ++ [32]) ++ textT B1)), .blk fc 83 #[.func (.func 66) #[] #[.pointer (some ⟨tc, 0, none⟩), .pointer (some ⟨bb, 0, none⟩), .pointer (some ⟨fc, 0, none⟩)]], .ro D (fun w => NodesD D w (.slice (some ⟨b, o, none⟩) ts.length c0) ts), .ro TabD Tab] := Own.frame (A := [.blk tc 23 #[.slice (some ⟨b, o, none⟩) ts.length c0], .blk bb 82 #[addrB true bb, .slice A20 (((n + 1) + (textT A1).length) + 1) c21], .row (.slice A20 (((n + 1) + (textT A1).length) + 1) c21) 5 1 (((n + 1) + (textT A1).length) + 1) (Lib.byteCells (((l ++ [40]) ++ textT A1) ++ [32])), .blk fc 83 #[.func (.func 66) #[] #[.pointer (some ⟨tc, 0, none⟩), .pointer (some ⟨bb, 0, none⟩), .pointer (some ⟨fc, 0, none⟩)]], .ro D (fun w => NodesD D w (.slice (some ⟨b, o, none⟩) ts.length c0) ts), .ro TabD Tab]) (R := []) (O26.re [2, 0, 1, 3, 4, 5] rfl : Own Z w0 w22.drew [.blk tc 23 #[.slice (some ⟨b, o, none⟩) ts.length c0], .blk bb 82 #[addrB true bb, .slice A20 (((n + 1) + (textT A1).length) + 1) c21], .row (.slice A20 (((n + 1) + (textT A1).length) + 1) c21) 5 1 (((n + 1) + (textT A1).length) + 1) (Lib.byteCells (((l ++ [40]) ++ textT A1) ++ [32])), .blk fc 83 #[.func (.func 66) #[] #[.pointer (some ⟨tc, 0, none⟩), .pointer (some ⟨bb, 0, none⟩), .pointer (some ⟨fc, 0, none⟩)]], .ro D (fun w => NodesD D w (.slice (some ⟨b, o, none⟩) ts.length c0) ts), .ro TabD Tab]) h30
    refine ⟨_, rfl, (O31.re [0, 3, 4, 5] rfl : Own Z w0 w29 [.blk tc 23 #[.slice (some ⟨b, o, none⟩) ts.length c0], .blk fc 83 #[.func (.func 66) #[] #[.pointer (some ⟨tc, 0, none⟩), .pointer (some ⟨bb, 0, none⟩), .pointer (some ⟨fc, 0, none⟩)]], .ro D (fun w => NodesD D w (.slice (some ⟨b, o, none⟩) ts.length c0) ts), .ro TabD Tab]), ?_⟩
    refine wt_nil ?_
    refine xw_next K25 ?_
    refine cw_region ?_
    refine wl_call (args := [.pointer (some ⟨bb, 0, none⟩), .int .u8 41]) in_69 rfl rfl rfl ?_
    have O36h := Own.hand (A := [.blk bb 82 #[addrB true bb, .slice A27 ((((n + 1) + (textT A1).length) + 1) + (textT B1).length) c28], .row (.slice A27 ((((n + 1) + (textT A1).length) + 1) + (textT B1).length) c28) 5 1 ((((n + 1) + (textT A1).length) + 1) + (textT B1).length) (Lib.byteCells ((((l ++ [40]) ++ textT A1) ++ [32]) ++ textT B1))]) (R := [.blk tc 23 #[.slice (some ⟨b, o, none⟩) ts.length c0], .blk fc 83 #[.func (.func 66) #[] #[.pointer (some ⟨tc, 0, none⟩), .pointer (some ⟨bb, 0, none⟩), .pointer (some ⟨fc, 0, none⟩)]], .ro D (fun w => NodesD D w (.slice (some ⟨b, o, none⟩) ts.length c0) ts), .ro TabD Tab]) (O31.re [1, 2, 0, 3, 4, 5] rfl : Own Z w0 w29 [.blk bb 82 #[addrB true bb, .slice A27 ((((n + 1) + (textT A1).length) + 1) + (textT B1).length) c28], .row (.slice A27 ((((n + 1) + (textT A1).length) + 1) + (textT B1).length) c28) 5 1 ((((n + 1) + (textT A1).length) + 1) + (textT B1).length) (Lib.byteCells ((((l ++ [40]) ++ textT A1) ++ [32]) ++ textT B1)), .blk tc 23 #[.slice (some ⟨b, o, none⟩) ts.length c0], .blk fc 83 #[.func (.func 66) #[] #[.pointer (some ⟨tc, 0, none⟩), .pointer (some ⟨bb, 0, none⟩), .pointer (some ⟨fc, 0, none⟩)]], .ro D (fun w => NodesD D w (.slice (some ⟨b, o, none⟩) ts.length c0) ts), .ro TabD Tab])
    refine (wbyte_ (used := true) (l := ((((l ++ [40]) ++ textT A1) ++ [32]) ++ textT B1)) 41 O36h (by omega)).mono ?_
    rintro _ w34 ⟨A32, c33, rfl, h35⟩
    have O36 : Own Z w0 w34 [.blk bb 82 #[addrB true bb, .slice A32 (((((n + 1) + (textT A1).length) + 1) + (textT B1).length) + 1) c33], .row (.slice A32 (((((n + 1) + (textT A1).length) + 1) + (textT B1).length) + 1) c33) 5 1 (((((n + 1) + (textT A1).length) + 1) + (textT B1).length) + 1) (Lib.byteCells (((((l ++ [40]) ++ textT A1) ++ [32]) ++ textT B1) ++ [41])), .blk tc 23 #[.slice (some ⟨b, o, none⟩) ts.length c0], .blk fc 83 #[.func (.func 66) #[] #[.pointer (some ⟨tc, 0, none⟩), .pointer (some ⟨bb, 0, none⟩), .pointer (some ⟨fc, 0, none⟩)]], .ro D (fun w => NodesD D w (.slice (some ⟨b, o, none⟩) ts.length c0) ts), .ro TabD Tab] := Own.frame (A := [.blk bb 82 #[addrB true bb, .slice A27 ((((n + 1) + (textT A1).length) + 1) + (textT B1).length) c28], .row (.slice A27 ((((n + 1) + (textT A1).length) + 1) + (textT B1).length) c28) 5 1 ((((n + 1) + (textT A1).length) + 1) + (textT B1).length) (Lib.byteCells ((((l ++ [40]) ++ textT A1) ++ [32]) ++ textT B1))]) (R := [.blk tc 23 #[.slice (some ⟨b, o, none⟩) ts.length c0], .blk fc 83 #[.func (.func 66) #[] #[.pointer (some ⟨tc, 0, none⟩), .pointer (some ⟨bb, 0, none⟩), .pointer (some ⟨fc, 0, none⟩)]], .ro D (fun w => NodesD D w (.slice (some ⟨b, o, none⟩) ts.length c0) ts), .ro TabD Tab]) (O31.re [1, 2, 0, 3, 4, 5] rfl : Own Z w0 w29 [.blk bb 82 #[addrB true bb, .slice A27 ((((n + 1) + (textT A1).length) + 1) + (textT B1).length) c28], .row (.slice A27 ((((n + 1) + (textT A1).length) + 1) + (textT B1).length) c28) 5 1 ((((n + 1) + (textT A1).length) + 1) + (textT B1).length) (Lib.byteCells ((((l ++ [40]) ++ textT A1) ++ [32]) ++ textT B1)), .blk tc 23 #[.slice (some ⟨b, o, none⟩) ts.length c0], .blk fc 83 #[.func (.func 66) #[] #[.pointer (some ⟨tc, 0, none⟩), .pointer (some ⟨bb, 0, none⟩), .pointer (some ⟨fc, 0, none⟩)]], .ro D (fun w => NodesD D w (.slice (some ⟨b, o, none⟩) ts.length c0) ts), .ro TabD Tab]) h35
    refine ⟨_, rfl, ?_⟩
    refine wl_nil ?_
    refine xw_end (v := .tuple #[]) (fun T hT => res0 rfl T _) ?_
    have hn : (((((n + 1) + (textT A1).length) + 1) + (textT B1).length) + 1) = n + (textT (.node A1 B1)).length := by simp only [textT, List.length_cons, List.length_append, List.length_nil] <;> omega
    have hl : (((((l ++ [40]) ++ textT A1) ++ [32]) ++ textT B1) ++ [41]) = l ++ textT (.node A1 B1) := by simp [textT]
    have hO := (O36.re [2, 0, 1, 3, 4, 5] rfl : Own Z w0 w34 [.blk tc 23 #[.slice (some ⟨b, o, none⟩) ts.length c0], .blk bb 82 #[addrB true bb, .slice A32 (((((n + 1) + (textT A1).length) + 1) + (textT B1).length) + 1) c33], .row (.slice A32 (((((n + 1) + (textT A1).length) + 1) + (textT B1).length) + 1) c33) 5 1 (((((n + 1) + (textT A1).length) + 1) + (textT B1).length) + 1) (Lib.byteCells (((((l ++ [40]) ++ textT A1) ++ [32]) ++ textT B1) ++ [41])), .blk fc 83 #[.func (.func 66) #[] #[.pointer (some ⟨tc, 0, none⟩), .pointer (some ⟨bb, 0, none⟩), .pointer (some ⟨fc, 0, none⟩)]], .ro D (fun w => NodesD D w (.slice (some ⟨b, o, none⟩) ts.length c0) ts), .ro TabD Tab])
    rw [hn, hl] at hO
    exact ⟨A32, c33, rfl, hO⟩
theorem chk_ok {ts : List VN} (h : chkV ts = 0) : okT ts = true := by
  unfold chkV at h
  split at h
  · assumption
  · omega
theorem chk_no {ts : List VN} (h : chkV ts ≠ 0) : okT ts = false := by
  unfold chkV at h
  split at h
  · omega
  · rename_i q; simpa using q
theorem Own.builder {w0 W : World} {b n c : Nat} {A : Option Addr} {l : List UInt8} (O : Own Z0 w0 W [.blk b 82 #[.pointer (some ⟨b, 0, none⟩), .slice A n c], .row (.slice A n c) 5 1 n (Lib.byteCells ([] ++ l))]) : Lib.IsBuilder 82 5 w0.heap.size b (Lib.byteCells l) W := by
  have hb := O.blk 0 rfl
  have hr := O.newrow 1 rfl
  have hn : n = (Lib.byteCells l).length := by have := hr.1; simpa using this.symm
  refine .inr ⟨?_, .slice A n c, hb, by rw [List.nil_append] at hr; rw [← hn]; exact hr, fun q => ?_⟩
  · rcases O.free _ (List.Mem.head _) b rfl with h | h
    · exact absurd (h.2 trivial) (by simp [Z0])
    · exact h
  · have h := List.pairwise_cons.1 O.dist
    exact h.1 _ (List.Mem.head _) (.inl trivial) b rfl q
theorem print_ {W : World} {D : Nat → Prop} {V : Value} {ts : List VN} (hN : NodesD D W V ts) (hD : ∀ k, D k → k < W.heap.size) (tab : Tab W) :
    Calls Tryd.prog 39 #[V] W fun e w' => e = .returned (.tuple #[.string ⟨(printOf ts).toArray⟩, .int .i64 (chkV ts)]) ∧ Below W.heap.size W w' := by
  obtain ⟨A, c, rfl⟩ := hN.slice
  have O0 : Own Z0 W W [] := Own.start W
  refine sx_enter (args := [.slice A ts.length c]) Tryd.func39 rfl rfl (by simp) ?_
  refine cw_seq (fun FK1 K1 => ?_)
  refine cw_region ?_
  obtain ⟨g2, w3, r4, O5, hg6, hs7⟩ := own_box O0 23 (.slice A ts.length c) rfl
  refine wl_val (v := .pointer (some ⟨g2, 0, none⟩)) (fun ρ e => r4 ρ _ _ _ _ _ _ (e _ _ rfl)) rfl rfl ?_
  refine wl_val (v := .string (⟨#[]⟩)) (fun ρ e => ex_assign (e _ _ rfl)) rfl rfl ?_
  refine wl_val (v := .int .i64 0) (fun ρ e => ex_assign (e _ _ rfl)) rfl rfl ?_
  refine wl_nil ?_
  refine xw_next K1 ?_
  refine cw_seq (fun FK8 K8 => ?_)
  refine cw_seq (fun FK9 K9 => ?_)
  refine cw_region ?_
  refine wl_val (v := .slice A ts.length c) (fun ρ e => ex_load1 ty23 (e _ _ rfl) (O5.cell 0 0 rfl rfl)) rfl rfl ?_
  refine wl_call (args := [.slice A ts.length c]) in_23 rfl rfl rfl ?_
  refine (check_ (hN.move (fun k hk => (O5.old).block k (hD k hk))) (fun k hk => Nat.lt_of_lt_of_le (hD k hk) (O5.old).size)).mono ?_
  rintro _ w10 ⟨rfl, hb11⟩
  have O12 : Own Z0 W w10 [.blk g2 23 #[.slice A ts.length c]] := O5.below hb11
  refine ⟨_, rfl, ?_⟩
  by_cases c13 : (chkV ts) ≠ 0
  · skip
    refine wl_val (v := .bool true) (fun ρ e => ex_cmp (u := (chkV ts)) (v := 0) (e _ _ rfl) (e _ _ rfl) (neq1 (by omega))) rfl rfl ?_
    refine wl_nil ?_
    refine xw_next K9 ?_
    refine cw_true rfl ?_
    refine cw_seq (fun FK14 K14 => ?_)
    refine cw_region ?_
    refine wl_val (v := .string (⟨#[]⟩)) (fun ρ e => ex_assign (e _ _ rfl)) rfl rfl ?_
    refine wl_val (v := .int .i64 1) (fun ρ e => ex_assign (e _ _ rfl)) rfl rfl ?_
    refine wl_nil ?_
    refine xw_next K14 ?_
    refine cw_ret ?_
    refine xw_past (by intro h; cases h) ?_
    refine xw_ret (v := .tuple #[.string (⟨#[]⟩), .int .i64 1]) (fun T hT => res2 rfl T _ (hT 2 _ rfl) (hT 3 _ rfl)) ?_
    have hno : okT ts = false := chk_no (by omega)
    exact ⟨by unfold chkV printOf; rw [hno]; rfl, O12.old⟩
  · skip
    have hok : okT ts = true := chk_ok (by omega)
    have hV := okT_val hok
    have hpos := hV.pos
    have hle := hV.le
    obtain ⟨vs, hAt⟩ := tree_at hok
    have hsm := hAt.small hV
    obtain ⟨b, o, c', hv, hDb⟩ := hN.form hpos
    injection hv with hA _ hc
    subst hA hc
    have O15 := (O12.oldro (D := TabD) (p := Tab) (tabE_holds tab)).oldro (D := D) (p := (fun w => NodesD D w (.slice (some ⟨b, o, none⟩) ts.length c) ts)) (nodesE_holds hN hD)
    refine wl_val (v := .bool false) (fun ρ e => ex_cmp (u := (chkV ts)) (v := 0) (e _ _ rfl) (e _ _ rfl) (neq0 (by omega))) rfl rfl ?_
    refine wl_nil ?_
    refine xw_next K9 ?_
    refine cw_false rfl ?_
    refine cw_skip ?_
    refine xw_next K8 ?_
    refine cw_seq (fun FK16 K16 => ?_)
    refine cw_region ?_
    obtain ⟨g17, w18, r19, O20, hg21, hs22⟩ := own_alloc O15 82 ze82 rfl
    refine wl_val (v := .pointer (some ⟨g17, 0, none⟩)) (fun ρ e => r19 ρ _ _ _ _ _) rfl rfl ?_
    refine wl_nil ?_
    refine xw_next K16 ?_
    refine cw_seq (fun FK23 K23 => ?_)
    refine cw_region ?_
    obtain ⟨g24, w25, r26, O27, hg28, hs29⟩ := own_alloc O20 83 ze83 rfl
    refine wl_val (v := .pointer (some ⟨g24, 0, none⟩)) (fun ρ e => r26 ρ _ _ _ _ _) rfl rfl ?_
    refine wl_nil ?_
    refine xw_next K23 ?_
    refine cw_seq (fun FK30 K30 => ?_)
    refine cw_region ?_
    refine wl_val (v := .func (.func 66) #[] #[.pointer (some ⟨g2, 0, none⟩), .pointer (some ⟨g17, 0, none⟩), .pointer (some ⟨g24, 0, none⟩)]) (fun ρ e => ex_func (us := []) (vs := [.pointer (some ⟨g2, 0, none⟩), .pointer (some ⟨g17, 0, none⟩), .pointer (some ⟨g24, 0, none⟩)]) (e.list rfl) (e.list rfl)) rfl rfl ?_
    obtain ⟨w31, r32, O33, hs34⟩ := own_put (o := 0) (n := 1) O27 ty83 (.func (.func 66) #[] #[.pointer (some ⟨g2, 0, none⟩), .pointer (some ⟨g17, 0, none⟩), .pointer (some ⟨g24, 0, none⟩)]) [.func (.func 66) #[] #[.pointer (some ⟨g2, 0, none⟩), .pointer (some ⟨g17, 0, none⟩), .pointer (some ⟨g24, 0, none⟩)]] (cs' := #[.func (.func 66) #[] #[.pointer (some ⟨g2, 0, none⟩), .pointer (some ⟨g17, 0, none⟩), .pointer (some ⟨g24, 0, none⟩)]]) rfl rfl rfl (Nat.le_of_ble_eq_true rfl) rfl
    refine wl_none (fun ρ e => r32 ρ _ _ _ _ _ _ (e _ _ rfl) (e _ _ rfl)) rfl ?_
    refine wl_nil ?_
    refine xw_next K30 ?_
    refine cw_seq (fun FK35 K35 => ?_)
    refine cw_region ?_
    refine wl_val (v := .func (.func 66) #[] #[.pointer (some ⟨g2, 0, none⟩), .pointer (some ⟨g17, 0, none⟩), .pointer (some ⟨g24, 0, none⟩)]) (fun ρ e => ex_load1 ty83 (e _ _ rfl) (O33.cell 0 0 rfl rfl)) rfl rfl ?_
    refine wl_val (v := .slice (some ⟨b, o, none⟩) ts.length c) (fun ρ e => ex_load1 ty23 (e _ _ rfl) (O33.cell 4 0 rfl rfl)) rfl rfl ?_
    refine wl_val (v := .int .i64 ((ts.length : Nat) : Int)) (fun ρ e => ex_len el23 (e _ _ rfl)) rfl rfl ?_
    refine wl_val (v := .int .i64 ((ts.length - 1 : Nat) : Int)) (fun ρ e => ex_arith (k := .i64) (u := ((ts.length : Nat) : Int)) (v := 1) (e _ _ rfl) (e _ _ rfl) (congrArg some ((congrArg _ (show _ = ((ts.length - 1 : Nat) : Int) by omega)).trans (wrap_in (by omega) (by omega))))) rfl rfl ?_
    refine wl_callv (args := [.int .i64 ((ts.length - 1 : Nat) : Int)]) (all := [.int .i64 ((ts.length - 1 : Nat) : Int), .pointer (some ⟨g2, 0, none⟩), .pointer (some ⟨g17, 0, none⟩), .pointer (some ⟨g24, 0, none⟩)]) in_66 rfl rfl rfl rfl rfl ?_
    have O36 : Own Z0 W w31 [.row (.slice none 0 0) 5 1 0 (Lib.byteCells []), .blk g24 83 #[.func (.func 66) #[] #[.pointer (some ⟨g2, 0, none⟩), .pointer (some ⟨g17, 0, none⟩), .pointer (some ⟨g24, 0, none⟩)]], .blk g17 82 #[.pointer none, .slice none 0 0], .ro D (fun w => NodesD D w (.slice (some ⟨b, o, none⟩) ts.length c) ts), .ro TabD Tab, .blk g2 23 #[.slice (some ⟨b, o, none⟩) ts.length c]] := O33.nilrow 5 1
    have O41h := Own.hand (A := [.blk g2 23 #[.slice (some ⟨b, o, none⟩) ts.length c], .blk g17 82 #[.pointer none, .slice none 0 0], .row (.slice none 0 0) 5 1 0 (Lib.byteCells []), .blk g24 83 #[.func (.func 66) #[] #[.pointer (some ⟨g2, 0, none⟩), .pointer (some ⟨g17, 0, none⟩), .pointer (some ⟨g24, 0, none⟩)]], .ro D (fun w => NodesD D w (.slice (some ⟨b, o, none⟩) ts.length c) ts), .ro TabD Tab]) (R := []) (O36.re [5, 2, 0, 1, 3, 4] rfl : Own Z0 W w31 [.blk g2 23 #[.slice (some ⟨b, o, none⟩) ts.length c], .blk g17 82 #[.pointer none, .slice none 0 0], .row (.slice none 0 0) 5 1 0 (Lib.byteCells []), .blk g24 83 #[.func (.func 66) #[] #[.pointer (some ⟨g2, 0, none⟩), .pointer (some ⟨g17, 0, none⟩), .pointer (some ⟨g24, 0, none⟩)]], .ro D (fun w => NodesD D w (.slice (some ⟨b, o, none⟩) ts.length c) ts), .ro TabD Tab])
    refine (pwrite_ (used := false) (l := []) hAt O41h (by omega)).mono ?_
    rintro _ w39 ⟨A37, c38, rfl, h40⟩
    have O41 : Own Z0 W w39 [.blk g2 23 #[.slice (some ⟨b, o, none⟩) ts.length c], .blk g17 82 #[.pointer (some ⟨g17, 0, none⟩), .slice A37 (0 + (textT (treeOf ts)).length) c38], .row (.slice A37 (0 + (textT (treeOf ts)).length) c38) 5 1 (0 + (textT (treeOf ts)).length) (Lib.byteCells ([] ++ textT (treeOf ts))), .blk g24 83 #[.func (.func 66) #[] #[.pointer (some ⟨g2, 0, none⟩), .pointer (some ⟨g17, 0, none⟩), .pointer (some ⟨g24, 0, none⟩)]], .ro D (fun w => NodesD D w (.slice (some ⟨b, o, none⟩) ts.length c) ts), .ro TabD Tab] := Own.frame (A := [.blk g2 23 #[.slice (some ⟨b, o, none⟩) ts.length c], .blk g17 82 #[.pointer none, .slice none 0 0], .row (.slice none 0 0) 5 1 0 (Lib.byteCells []), .blk g24 83 #[.func (.func 66) #[] #[.pointer (some ⟨g2, 0, none⟩), .pointer (some ⟨g17, 0, none⟩), .pointer (some ⟨g24, 0, none⟩)]], .ro D (fun w => NodesD D w (.slice (some ⟨b, o, none⟩) ts.length c) ts), .ro TabD Tab]) (R := []) (O36.re [5, 2, 0, 1, 3, 4] rfl : Own Z0 W w31 [.blk g2 23 #[.slice (some ⟨b, o, none⟩) ts.length c], .blk g17 82 #[.pointer none, .slice none 0 0], .row (.slice none 0 0) 5 1 0 (Lib.byteCells []), .blk g24 83 #[.func (.func 66) #[] #[.pointer (some ⟨g2, 0, none⟩), .pointer (some ⟨g17, 0, none⟩), .pointer (some ⟨g24, 0, none⟩)]], .ro D (fun w => NodesD D w (.slice (some ⟨b, o, none⟩) ts.length c) ts), .ro TabD Tab]) h40
    refine ⟨_, rfl, ?_⟩
    refine wl_nil ?_
    refine xw_next K35 ?_
    refine cw_seq (fun FK42 K42 => ?_)
    refine cw_region ?_
    refine wl_call (args := [.pointer (some ⟨g17, 0, none⟩)]) in_70 rfl rfl rfl ?_
    refine (Tryd.Builder_String W.heap.size g17 (textT (treeOf ts)) _ ((O41.re [1, 2] rfl : Own Z0 W w39 [.blk g17 82 #[.pointer (some ⟨g17, 0, none⟩), .slice A37 (0 + (textT (treeOf ts)).length) c38], .row (.slice A37 (0 + (textT (treeOf ts)).length) c38) 5 1 (0 + (textT (treeOf ts)).length) (Lib.byteCells ([] ++ textT (treeOf ts)))]).builder) (by have := (textT_len (treeOf ts)).1; intro q; rw [q] at this; exact absurd this (Nat.lt_irrefl _))).mono ?_
    rintro _ w43 ⟨rfl, hb44⟩
    have O45 : Own Z0 W w43 [] := (Own.start W).below (O41.old.trans hb44)
    refine ⟨_, rfl, ?_⟩
    refine wl_val (v := .string (⟨(textT (treeOf ts)).toArray⟩)) (fun ρ e => ex_assign (e _ _ rfl)) rfl rfl ?_
    refine wl_val (v := .int .i64 0) (fun ρ e => ex_assign (e _ _ rfl)) rfl rfl ?_
    refine wl_nil ?_
    refine xw_next K42 ?_
    refine cw_ret ?_
    refine xw_ret (v := .tuple #[.string (⟨(textT (treeOf ts)).toArray⟩), .int .i64 0]) (fun T hT => res2 rfl T _ (hT 2 _ rfl) (hT 3 _ rfl)) ?_
    exact ⟨by unfold chkV printOf; rw [hok]; rfl, O45.old⟩
end Go.Proofs.YtpeoodkepjhhiaaDoor
