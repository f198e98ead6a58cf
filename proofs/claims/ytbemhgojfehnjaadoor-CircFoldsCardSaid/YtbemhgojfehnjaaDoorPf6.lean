/-
  Lemmas and contracts, joined: Rl Rfind Rnot Riff Rmany RxorP.
-/
import Derived.Test.YtbemhgojfehnjaaDoorPf5
namespace Go.Proofs.YtbemhgojfehnjaaDoor
open Go Go.RowKit
/-- The reference's list of gates. -/
def refE (f : Nat) (R : Option Addr) (c : Nat) (D : Nat → Prop) (L : List Gate) (vs : List Value) : List En :=
  [.blk f 63 #[.slice R L.length c], .row (.slice R L.length c) 38 3 L.length (gcells L vs), insE D L vs]
def RPost (A : List En) (W : World) (f : Nat) (q : List Gate × Int) (e : Ending) (w' : World) : Prop :=
  ∃ R c D vs, e = .returned (.int .i64 q.2) ∧ Own (zone A) W w' (refE f R c D q.1 vs)
section
variable {Z : Bool → Nat → Prop} {w0 W : World} {rest A : List En} {f c : Nat} {R : Option Addr} {D : Nat → Prop} {L : List Gate} {vs : List Value}
theorem RPost.use {F : FuncId} {args : Array Value} {q : List Gate × Int} (O : Own Z w0 W (A ++ rest)) (h : Calls Tryd.prog F args W (RPost A W f q)) :
    Calls Tryd.prog F args W fun e w' => ∃ R' c' D' vs', e = .returned (.int .i64 q.2) ∧ Own Z w0 w' (refE f R' c' D' q.1 vs' ++ rest) :=
  h.mono (fun _ _ ⟨R', c', D', vs', he, h'⟩ => ⟨R', c', D', vs', he, O.frame h'⟩)
theorem ref_gate (hO : Own Z w0 W (refE f R c D L vs ++ rest)) {i : Nat} (hi : i < L.length) : ∃ g v, R = some ⟨g, 0, none⟩ ∧ g < W.heap.size ∧ vs[i]? = some v ∧ IntsD D W v L[i].inp ∧
    W.cell? ⟨g, i * 3, none⟩ = some (.int .i64 L[i].kind) ∧ W.cell? ⟨g, i * 3 + 1, none⟩ = some (.int .i64 L[i].lit) ∧ W.cell? ⟨g, i * 3 + 2, none⟩ = some v := by
  have hr := hO.row 1 rfl
  have hins : Ins D L vs W := hO.ro 2 rfl
  obtain ⟨g, rfl⟩ := rowaddr hr (by omega)
  have hi' : i < vs.length := by rw [← hins.1]; exact hi
  obtain ⟨h1, h2, h3⟩ := gcells_get (L := L) (vs := vs) (List.getElem?_eq_getElem hi) (List.getElem?_eq_getElem hi')
  exact ⟨g, vs[i], rfl, (World.ownsRow.lt hr g rfl).2, List.getElem?_eq_getElem hi', hins.2 i _ _ (List.getElem?_eq_getElem hi) (List.getElem?_eq_getElem hi'), rowcell hr h1, rowcell hr h2, rowcell hr h3⟩
end
/-- How often a number stands in a list. -/
def timesOf (x : Int) : List Int → Nat
  | [] => 0
  | y :: l => (if y = x then 1 else 0) + timesOf x l
theorem timesOf_snoc (x y : Int) : ∀ l : List Int, timesOf x (l ++ [y]) = timesOf x l + (if y = x then 1 else 0)
  | [] => by simp [timesOf]
  | z :: l => by rw [List.cons_append, timesOf, timesOf, timesOf_snoc x y l]; omega
theorem ris_ {Z : Bool → Nat → Prop} {w0 W : World} {rest : List En} {f c : Nat} {R : Option Addr} {D : Nat → Prop} {L : List Gate} {vs : List Value} (O : Own Z w0 W (refE f R c D L vs ++ rest)) {i : Nat} (hi : i < L.length) (k : Int) :
    Calls Tryd.prog 83 #[.pointer (some ⟨f, 0, none⟩), .int .i64 (i : Int), .int .i64 k] W fun e w' => e = .returned (.bool (kindAt L (i : Int) == k)) ∧ Below W.heap.size W w' := by
  have hf := O.blk 0 rfl
  obtain ⟨r, v, rfl, hr, hv, hD, h0, h1, h2⟩ := ref_gate O hi
  have O0 : Own Z0 W W [] := Own.start W
  refine sx_enter (args := [.pointer (some ⟨f, 0, none⟩), .int .i64 (i : Int), .int .i64 k]) Tryd.func83 rfl rfl (by simp) ?_
  refine cw_seq (fun FK1 K1 => ?_)
  refine cw_region ?_
  refine wl_val (v := .bool false) (fun ρ e => ex_assign (e _ _ rfl)) rfl rfl ?_
  refine wl_nil ?_
  refine xw_next K1 ?_
  refine cw_seq (fun FK2 K2 => ?_)
  refine cw_region ?_
  refine wl_val (v := .pointer (some ⟨f, 0, none⟩)) (fun ρ e => ex_move (e _ _ rfl)) rfl rfl ?_
  refine wl_val (v := .pointer (some ⟨f, 0, none⟩)) (fun ρ e => ex_nil (e _ _ rfl)) rfl rfl ?_
  refine wl_val (v := .pointer (some ⟨f, 0, none⟩)) (fun ρ e => ex_field (q := 0) fi63_0 (e _ _ rfl) rfl) rfl rfl ?_
  refine wl_val (v := .slice (some ⟨r, 0, none⟩) L.length c) (fun ρ e => ex_load1 ty22 (e _ _ rfl) (hf.oldcell O0.old 0 rfl)) rfl rfl ?_
  refine wl_val (v := .int .i64 (i : Int)) (fun ρ e => ex_move (e _ _ rfl)) rfl rfl ?_
  refine wl_val (v := .pointer (some ⟨r, i * 3, none⟩)) (fun ρ e => ex_idx (q := i * 3) (i := i) el22 (e _ _ rfl) (e _ _ rfl) (by omega) (by omega)) rfl rfl ?_
  refine wl_val (v := .pointer (some ⟨r, i * 3, none⟩)) (fun ρ e => ex_field (q := i * 3) fi38_0 (e _ _ rfl) rfl) rfl rfl ?_
  refine wl_val (v := .int .i64 (L[i].kind)) (fun ρ e => ex_load1 ty3 (e _ _ rfl) ((O0.old.cell (p := ⟨r, i * 3, none⟩) hr).trans h0)) rfl rfl ?_
  refine wl_val (v := .int .i64 k) (fun ρ e => ex_move (e _ _ rfl)) rfl rfl ?_
  refine wl_val (v := .bool (L[i].kind == k)) (fun ρ e => ex_cmp (u := L[i].kind) (v := k) (r := (L[i].kind == k)) (e _ _ rfl) (e _ _ rfl) rfl) rfl rfl ?_
  refine wl_val (v := .bool (L[i].kind == k)) (fun ρ e => ex_assign (e _ _ rfl)) rfl rfl ?_
  refine wl_nil ?_
  refine xw_next K2 ?_
  refine cw_ret ?_
  refine xw_ret (v := .bool (L[i].kind == k)) (fun T hT => res1 rfl T _ (hT 6 _ rfl)) ?_
  exact ⟨by simp [kindAt, gateAt, List.getElem?_eq_getElem hi], O0.old⟩
theorem times_ {W : World} {V : Value} {l : List Int} {x : Int} (hV : IntsV W W.heap.size V l) (hl : l.length ≤ 1000000000) : Calls Tryd.prog 84 #[V, .int .i64 x] W fun e w' => e = .returned (.int .i64 ((timesOf x l : Nat) : Int)) ∧ Below W.heap.size W w' := by
  obtain ⟨A, c, rfl, hAc, hcm, _⟩ := id hV
  have O0 : Own Z0 W W [] := Own.start W
  refine sx_enter (args := [.slice A l.length c, .int .i64 x]) Tryd.func84 rfl rfl (by simp) ?_
  refine cw_seq (fun FK1 K1 => ?_)
  refine cw_region ?_
  refine wl_val (v := .int .i64 0) (fun ρ e => ex_assign (e _ _ rfl)) rfl rfl ?_
  refine wl_nil ?_
  refine xw_next K1 ?_
  refine cw_seq (fun FK2 K2 => ?_)
  refine cw_region ?_
  refine wl_val (v := .int .i64 0) (fun ρ e => ex_assign (e _ _ rfl)) rfl rfl ?_
  refine wl_nil ?_
  refine xw_next K2 ?_
  refine cw_seq (fun FK3 K3 => ?_)
  refine cw_seq (fun FK4 K4 => ?_)
  refine cw_region ?_
  refine wl_val (v := .int .i64 0) (fun ρ e => ex_assign (e _ _ rfl)) rfl rfl ?_
  refine wl_nil ?_
  refine xw_next K4 ?_
  refine cw_block ?_
  refine cw_loop (ι := Nat × Nat) (fun q => [(0, .slice A l.length c), (1, .int .i64 x), (5, .int .i64 (q.2 : Int)), (6, .int .i64 (q.1 : Int))]) (fun q X => (q.1 ≤ l.length) ∧ (q.2 = timesOf x (l.take q.1)) ∧ (q.2 ≤ q.1) ∧ Own Z0 W X []) (fun q => l.length - q.1) (0, 0) ⟨(Nat.zero_le _), rfl, (Nat.le_refl _), O0⟩ ⟨rfl, rfl, rfl, rfl, trivial⟩ (fun q w5 hJ F6 K7 => ?_)
  obtain ⟨k, n⟩ := q
  obtain ⟨hk0, hn, hnk, O8⟩ := hJ
  dsimp only at hk0 hn hnk O8 ⊢
  by_cases hk : k < l.length
  · obtain ⟨bI, oI, hA2, hbI, kI⟩ := hV.at_ O8.old hk
    have htk : l.take (k + 1) = l.take k ++ [l[k]] := (List.take_append_getElem hk).symm
    by_cases hx : l[k] = x
    · skip
      refine cw_seq (fun FK9 K9 => ?_)
      refine cw_seq (fun FK10 K10 => ?_)
      refine cw_region ?_
      refine wl_val (v := .int .i64 (k : Int)) (fun ρ e => ex_move (e _ _ rfl)) rfl rfl ?_
      refine wl_val (v := .slice A l.length c) (fun ρ e => ex_move (e _ _ rfl)) rfl rfl ?_
      refine wl_val (v := .int .i64 ((l.length : Nat) : Int)) (fun ρ e => ex_len el36 (e _ _ rfl)) rfl rfl ?_
      refine wl_val (v := .bool true) (fun ρ e => ex_cmp (u := (k : Int)) (v := ((l.length : Nat) : Int)) (e _ _ rfl) (e _ _ rfl) (lss1 (by omega))) rfl rfl ?_
      refine wl_nil ?_
      refine xw_next K10 ?_
      refine cw_true rfl ?_
      refine cw_skip ?_
      refine xw_next K9 ?_
      refine cw_seq (fun FK11 K11 => ?_)
      refine cw_block ?_
      refine cw_seq (fun FK12 K12 => ?_)
      refine cw_region ?_
      refine wl_val (v := .slice A l.length c) (fun ρ e => ex_move (e _ _ rfl)) rfl rfl ?_
      refine wl_val (v := .int .i64 (k : Int)) (fun ρ e => ex_move (e _ _ rfl)) rfl rfl ?_
      refine wl_val (v := .pointer (some ⟨bI, oI + k, none⟩)) (fun ρ e => ex_idx (q := oI + k) (g := bI) (o := oI) (i := k) el36 ((e _ _ rfl).trans (congrArg (fun z => Value.slice z _ _) hA2)) (e _ _ rfl) hk (by omega)) rfl rfl ?_
      refine wl_val (v := .int .i64 (l[k])) (fun ρ e => ex_load1 ty3 (e _ _ rfl) kI) rfl rfl ?_
      refine wl_val (v := .int .i64 x) (fun ρ e => ex_move (e _ _ rfl)) rfl rfl ?_
      refine wl_val (v := .bool true) (fun ρ e => ex_cmp (u := l[k]) (v := x) (e _ _ rfl) (e _ _ rfl) (eql1 hx)) rfl rfl ?_
      refine wl_nil ?_
      refine xw_next K12 ?_
      refine cw_true rfl ?_
      refine cw_region ?_
      refine wl_val (v := .int .i64 (n : Int)) (fun ρ e => ex_move (e _ _ rfl)) rfl rfl ?_
      refine wl_val (v := .int .i64 ((n + 1 : Nat) : Int)) (fun ρ e => ex_arith (k := .i64) (u := (n : Int)) (v := 1) (e _ _ rfl) (e _ _ rfl) (congrArg some ((congrArg _ (by omega)).trans (wrap_in (u := ((n + 1 : Nat) : Int)) (by omega) (by omega))))) rfl rfl ?_
      refine wl_val (v := .int .i64 ((n + 1 : Nat) : Int)) (fun ρ e => ex_assign (e _ _ rfl)) rfl rfl ?_
      refine wl_nil ?_
      refine xw_block ?_
      refine xw_next K11 ?_
      refine cw_region ?_
      refine wl_val (v := .int .i64 (k : Int)) (fun ρ e => ex_move (e _ _ rfl)) rfl rfl ?_
      refine wl_val (v := .int .i64 ((k + 1 : Nat) : Int)) (fun ρ e => ex_arith (k := .i64) (u := (k : Int)) (v := 1) (e _ _ rfl) (e _ _ rfl) (congrArg some ((congrArg _ (by omega)).trans (wrap_in (u := ((k + 1 : Nat) : Int)) (by omega) (by omega))))) rfl rfl ?_
      refine wl_val (v := .int .i64 ((k + 1 : Nat) : Int)) (fun ρ e => ex_assign (e _ _ rfl)) rfl rfl ?_
      refine wl_nil ?_
      refine xw_round K7 (k + 1, n + 1) (by show l.length - (k + 1) < l.length - k; omega) ⟨(by show k + 1 ≤ _; omega), (by show _ = _; rw [htk, timesOf_snoc, ← hn]; simp [hx]), (by show _ ≤ k + 1; omega), O8⟩ ⟨rfl, rfl, rfl, rfl, trivial⟩
    · skip
      refine cw_seq (fun FK13 K13 => ?_)
      refine cw_seq (fun FK14 K14 => ?_)
      refine cw_region ?_
      refine wl_val (v := .int .i64 (k : Int)) (fun ρ e => ex_move (e _ _ rfl)) rfl rfl ?_
      refine wl_val (v := .slice A l.length c) (fun ρ e => ex_move (e _ _ rfl)) rfl rfl ?_
      refine wl_val (v := .int .i64 ((l.length : Nat) : Int)) (fun ρ e => ex_len el36 (e _ _ rfl)) rfl rfl ?_
      refine wl_val (v := .bool true) (fun ρ e => ex_cmp (u := (k : Int)) (v := ((l.length : Nat) : Int)) (e _ _ rfl) (e _ _ rfl) (lss1 (by omega))) rfl rfl ?_
      refine wl_nil ?_
      refine xw_next K14 ?_
      refine cw_true rfl ?_
      refine cw_skip ?_
      refine xw_next K13 ?_
      refine cw_seq (fun FK15 K15 => ?_)
      refine cw_block ?_
      refine cw_seq (fun FK16 K16 => ?_)
      refine cw_region ?_
      refine wl_val (v := .slice A l.length c) (fun ρ e => ex_move (e _ _ rfl)) rfl rfl ?_
      refine wl_val (v := .int .i64 (k : Int)) (fun ρ e => ex_move (e _ _ rfl)) rfl rfl ?_
      refine wl_val (v := .pointer (some ⟨bI, oI + k, none⟩)) (fun ρ e => ex_idx (q := oI + k) (g := bI) (o := oI) (i := k) el36 ((e _ _ rfl).trans (congrArg (fun z => Value.slice z _ _) hA2)) (e _ _ rfl) hk (by omega)) rfl rfl ?_
      refine wl_val (v := .int .i64 (l[k])) (fun ρ e => ex_load1 ty3 (e _ _ rfl) kI) rfl rfl ?_
      refine wl_val (v := .int .i64 x) (fun ρ e => ex_move (e _ _ rfl)) rfl rfl ?_
      refine wl_val (v := .bool false) (fun ρ e => ex_cmp (u := l[k]) (v := x) (e _ _ rfl) (e _ _ rfl) (eql0 hx)) rfl rfl ?_
      refine wl_nil ?_
      refine xw_next K16 ?_
      refine cw_false rfl ?_
      refine cw_skip ?_
      refine xw_block ?_
      refine xw_next K15 ?_
      refine cw_region ?_
      refine wl_val (v := .int .i64 (k : Int)) (fun ρ e => ex_move (e _ _ rfl)) rfl rfl ?_
      refine wl_val (v := .int .i64 ((k + 1 : Nat) : Int)) (fun ρ e => ex_arith (k := .i64) (u := (k : Int)) (v := 1) (e _ _ rfl) (e _ _ rfl) (congrArg some ((congrArg _ (by omega)).trans (wrap_in (u := ((k + 1 : Nat) : Int)) (by omega) (by omega))))) rfl rfl ?_
      refine wl_val (v := .int .i64 ((k + 1 : Nat) : Int)) (fun ρ e => ex_assign (e _ _ rfl)) rfl rfl ?_
      refine wl_nil ?_
      refine xw_round K7 (k + 1, n) (by show l.length - (k + 1) < l.length - k; omega) ⟨(by show k + 1 ≤ _; omega), (by show _ = _; rw [htk, timesOf_snoc, ← hn]; simp [hx]), (by show _ ≤ k + 1; omega), O8⟩ ⟨rfl, rfl, rfl, rfl, trivial⟩
  · have hke : k = l.length := by omega
    rw [hke, List.take_length] at hn
    refine cw_seq (fun FK17 K17 => ?_)
    refine cw_seq (fun FK18 K18 => ?_)
    refine cw_region ?_
    refine wl_val (v := .int .i64 (k : Int)) (fun ρ e => ex_move (e _ _ rfl)) rfl rfl ?_
    refine wl_val (v := .slice A l.length c) (fun ρ e => ex_move (e _ _ rfl)) rfl rfl ?_
    refine wl_val (v := .int .i64 ((l.length : Nat) : Int)) (fun ρ e => ex_len el36 (e _ _ rfl)) rfl rfl ?_
    refine wl_val (v := .bool false) (fun ρ e => ex_cmp (u := (k : Int)) (v := ((l.length : Nat) : Int)) (e _ _ rfl) (e _ _ rfl) (lss0 (by omega))) rfl rfl ?_
    refine wl_nil ?_
    refine xw_next K18 ?_
    refine cw_false rfl ?_
    refine cw_exit ?_
    refine xw_past (by intro h; cases h) ?_
    refine xw_past (by intro h; cases h) ?_
    refine xw_here ?_
    refine xw_next K3 ?_
    refine cw_seq (fun FK19 K19 => ?_)
    refine cw_region ?_
    refine wl_val (v := .int .i64 (n : Int)) (fun ρ e => ex_move (e _ _ rfl)) rfl rfl ?_
    refine wl_val (v := .int .i64 (n : Int)) (fun ρ e => ex_assign (e _ _ rfl)) rfl rfl ?_
    refine wl_nil ?_
    refine xw_next K19 ?_
    refine cw_ret ?_
    refine xw_ret (v := .int .i64 (n : Int)) (fun T hT => res1 rfl T _ (hT 4 _ rfl)) ?_
    exact ⟨by rw [hn], O8.old⟩
end Go.Proofs.YtbemhgojfehnjaaDoor
namespace Go.Proofs.YtbemhgojfehnjaaDoor
open Go Go.RowKit
theorem gidx_no {g : Gate} : ∀ {L : List Gate} {i : Nat}, (∀ j (h : j < L.length), L[j] ≠ g) → gidx g L i = none
  | [], _, _ => rfl
  | x :: l, i, h => by
    unfold gidx
    have h0 : ¬ g = x := fun e => h 0 (by simp) e.symm
    rw [if_neg h0]
    exact gidx_no (fun j hj => h (j + 1) (by simpa using hj))
theorem gidx_first {g : Gate} : ∀ {L : List Gate} {i k : Nat} (hk : k < L.length), (∀ j (h : j < L.length), j < k → L[j] ≠ g) → L[k] = g → gidx g L i = some (i + k)
  | x :: l, i, 0, _, _, e => by
    have e' : x = g := e
    unfold gidx
    rw [if_pos e'.symm]; rfl
  | x :: l, i, k + 1, hk, h, e => by
    unfold gidx
    have h0 : ¬ g = x := fun q => h 0 (by simp) (by omega) q.symm
    rw [if_neg h0, gidx_first (i := i + 1) (k := k) (by simpa using hk) (fun j hj hjk => h (j + 1) (by simpa using hj) (by omega)) e]
    congr 1; omega
theorem ins_atD {D : Nat → Prop} {L : List Gate} {vs : List Value} {w : World} {i : Nat} {A : Option Addr} {c : Nat} (hI : Ins D L vs w) (hD : ∀ k, D k → k < w.heap.size) (hi : i < L.length) (hv : i < vs.length) (e : vs[i] = .slice A L[i].inp.length c) : IntsD (fun k => k < w.heap.size) w (.slice A L[i].inp.length c) L[i].inp := by
  rw [← e]
  exact (hI.2 i _ _ (List.getElem?_eq_getElem hi) (List.getElem?_eq_getElem hv)).mono hD
section
variable {W w' : World} {f c i : Nat} {R : Option Addr} {D D2 : Nat → Prop} {L : List Gate} {vs : List Value} {V : Value} {g : Gate} {A : List En}
theorem rfind_old (hk : i < L.length) (hn : ∀ j (h : j < L.length), j < i → L[j] ≠ g) (hq : L[i] = g) (O : Own (zone A) W w' (refE f R c D L vs)) : RPost A W f (findG L g) (.returned (.int .i64 (i : Int))) w' := by
  unfold findG
  rw [gidx_first hk hn hq, Nat.zero_add]
  exact ⟨R, c, D, vs, rfl, O⟩
theorem rfind_new (hx : gidx g L 0 = none) (O : Own (zone A) W w' [.blk f 63 #[.slice R (L.length + 1) c], .row (.slice R (L.length + 1) c) 38 3 (L.length + 1) (gcells (L ++ [g]) (vs ++ [V])), insE D L vs, inE D2 V g.inp]) :
    RPost A W f (findG L g) (.returned (.int .i64 (L.length : Int))) w' := by
  unfold findG
  rw [hx]
  refine ⟨R, c, fun k => D k ∨ D2 k, vs ++ [V], rfl, ?_⟩
  have O1 : Own (zone A) W w' ([insE D L vs, inE D2 V g.inp] ++ [.blk f 63 #[.slice R (L.length + 1) c], .row (.slice R (L.length + 1) c) 38 3 (L.length + 1) (gcells (L ++ [g]) (vs ++ [V]))]) := O.re [2, 3, 0, 1] rfl
  have i1 : Ins D L vs w' := O.ro 2 rfl
  have i2 : IntsD D2 w' V g.inp := O.ro 3 rfl
  have O2 := O1.step (A' := [insE (fun k => D k ∨ D2 k) (L ++ [g]) (vs ++ [V])]) (Frame.refl NoB w') (fun _ _ hn => hn.elim)
    (fun e he => by
      rw [List.mem_singleton.1 he]
      exact ⟨i1.snoc i2, fun k hk => hk.elim (fun q => (O.get 2 rfl).2.1 k q) (fun q => (O.get 3 rfl).2.1 k q), fun _ _ _ hk h => h.move hk⟩)
    (List.pairwise_singleton _ _)
    (fun e he k hk => by
      rw [List.mem_singleton.1 he] at hk ⊢
      refine .inl ?_
      rcases hk with q | q
      · exact ⟨insE D L vs, by simp, q, fun h => h.elim⟩
      · exact ⟨inE D2 V g.inp, by simp, q, fun h => h.elim⟩)
  have O3 := O2.re [1, 2, 0] rfl
  have e : (L ++ [g]).length = L.length + 1 := by simp
  unfold refE
  rw [e]
  exact O3
theorem rfind_ (O0 : Own (zone (refE f R c D L vs ++ [inE D2 V g.inp])) W W (refE f R c D L vs ++ [inE D2 V g.inp])) (hsL : ∀ i (h : i < L.length), L[i].inp.length ≤ 1000000000) (hsg : g.inp.length ≤ 1000000000) (hL : L.length ≤ 1000000) :
    Calls Tryd.prog 72 #[.pointer (some ⟨f, 0, none⟩), .int .i64 g.kind, .int .i64 g.lit, V] W (RPost (refE f R c D L vs ++ [inE D2 V g.inp]) W f (findG L g)) := by
  obtain ⟨AV, cV, rfl⟩ := (O0.ro 3 rfl : IntsD D2 _ V g.inp).slice
  refine sx_enter (args := [.pointer (some ⟨f, 0, none⟩), .int .i64 g.kind, .int .i64 g.lit, .slice AV g.inp.length cV]) Tryd.func72 rfl rfl (by simp) ?_
  refine cw_seq (fun FK1 K1 => ?_)
  refine cw_region ?_
  refine wl_val (v := .int .i64 0) (fun ρ e => ex_assign (e _ _ rfl)) rfl rfl ?_
  refine wl_nil ?_
  refine xw_next K1 ?_
  refine cw_seq (fun FK2 K2 => ?_)
  refine cw_region ?_
  refine wl_val (v := .int .i64 g.kind) (fun ρ e => ex_move (e _ _ rfl)) rfl rfl ?_
  refine wl_val (v := .int .i64 g.lit) (fun ρ e => ex_move (e _ _ rfl)) rfl rfl ?_
  refine wl_val (v := .slice AV g.inp.length cV) (fun ρ e => ex_move (e _ _ rfl)) rfl rfl ?_
  refine wl_val (v := .agg #[.int .i64 g.kind, .int .i64 g.lit, .slice AV g.inp.length cV]) (fun ρ e => ex_build (cells := #[.int .i64 g.kind, .int .i64 g.lit, .slice AV g.inp.length cV]) st38 (e.parts rfl) rfl) rfl rfl ?_
  obtain ⟨g3, w4, r5, O6, hg7, hs8⟩ := own_alloc O0 38 ze38 rfl
  refine wl_val (v := .pointer (some ⟨g3, 0, none⟩)) (fun ρ e => r5 ρ _ _ _ _ _) rfl rfl ?_
  obtain ⟨w9, r10, O11, hs12⟩ := own_put (o := 0) (n := 3) O6 ty38 (.agg #[.int .i64 g.kind, .int .i64 g.lit, .slice AV g.inp.length cV]) [.int .i64 g.kind, .int .i64 g.lit, .slice AV g.inp.length cV] (cs' := #[.int .i64 g.kind, .int .i64 g.lit, .slice AV g.inp.length cV]) rfl rfl rfl (Nat.le_of_ble_eq_true rfl) rfl
  refine wl_none (fun ρ e => r10 ρ _ _ _ _ _ _ (e _ _ rfl) (e _ _ rfl)) rfl ?_
  refine wl_nil ?_
  refine xw_next K2 ?_
  refine cw_seq (fun FK13 K13 => ?_)
  refine cw_seq (fun FK14 K14 => ?_)
  refine cw_region ?_
  refine wl_val (v := .int .i64 0) (fun ρ e => ex_assign (e _ _ rfl)) rfl rfl ?_
  refine wl_nil ?_
  refine xw_next K14 ?_
  refine cw_block ?_
  refine cw_loop (ι := Nat) (fun q => [(0, .pointer (some ⟨f, 0, none⟩)), (9, .pointer (some ⟨g3, 0, none⟩)), (10, .int .i64 (q : Int))]) (fun q X => (q ≤ L.length) ∧ (∀ j (h : j < L.length), j < q → L[j] ≠ g) ∧ Own (zone (refE f R c D L vs ++ [inE D2 (.slice AV g.inp.length cV) g.inp])) W X [.blk g3 38 #[.int .i64 g.kind, .int .i64 g.lit, .slice AV g.inp.length cV], .blk f 63 #[.slice R L.length c], .row (.slice R L.length c) 38 3 L.length (gcells L vs), .ro D (Ins D L vs), .ro D2 (fun w => IntsD D2 w (.slice AV g.inp.length cV) g.inp)]) (fun q => L.length - q) 0 ⟨(Nat.zero_le _), (fun j _ h => absurd h (Nat.not_lt_zero j)), O11⟩ ⟨rfl, rfl, rfl, trivial⟩ (fun q w15 hJ F16 K17 => ?_)
  obtain ⟨i, rfl⟩ : ∃ x, x = q := ⟨_, rfl⟩
  obtain ⟨hi0, hn, O18⟩ := hJ
  try dsimp only at hi0 hn O18 ⊢
  by_cases hk : i < L.length
  · obtain ⟨rg, hrg⟩ := O18.rowshape 2 rfl (by omega)
    have hins : Ins D L vs _ := O18.ro 3 rfl
    have hvl := hins.1
    obtain ⟨Ai, ci, hA⟩ := (hins.2 i _ _ (List.getElem?_eq_getElem hk) (List.getElem?_eq_getElem (show i < vs.length by omega))).slice
    obtain ⟨p0, p1, p2⟩ := gcells_get (List.getElem?_eq_getElem hk) (List.getElem?_eq_getElem (show i < vs.length by omega))
    rw [hA] at p2
    by_cases hq : L[i] = g
    · skip
      refine cw_seq (fun FK19 K19 => ?_)
      refine cw_seq (fun FK20 K20 => ?_)
      refine cw_region ?_
      refine wl_val (v := .int .i64 (i : Int)) (fun ρ e => ex_move (e _ _ rfl)) rfl rfl ?_
      refine wl_val (v := .pointer (some ⟨f, 0, none⟩)) (fun ρ e => ex_move (e _ _ rfl)) rfl rfl ?_
      refine wl_val (v := .pointer (some ⟨f, 0, none⟩)) (fun ρ e => ex_nil (e _ _ rfl)) rfl rfl ?_
      refine wl_val (v := .pointer (some ⟨f, 0, none⟩)) (fun ρ e => ex_field (q := 0) fi63_0 (e _ _ rfl) rfl) rfl rfl ?_
      refine wl_val (v := .slice R L.length c) (fun ρ e => ex_load1 ty22 (e _ _ rfl) (O18.cell 1 0 rfl rfl)) rfl rfl ?_
      refine wl_val (v := .int .i64 ((L.length : Nat) : Int)) (fun ρ e => ex_len el22 (e _ _ rfl)) rfl rfl ?_
      refine wl_val (v := .bool true) (fun ρ e => ex_cmp (u := (i : Int)) (v := ((L.length : Nat) : Int)) (e _ _ rfl) (e _ _ rfl) (lss1 (by omega))) rfl rfl ?_
      refine wl_nil ?_
      refine xw_next K20 ?_
      refine cw_true rfl ?_
      refine cw_skip ?_
      refine xw_next K19 ?_
      refine cw_seq (fun FK21 K21 => ?_)
      refine cw_block ?_
      refine cw_seq (fun FK22 K22 => ?_)
      refine cw_drawn (fun X => Own (zone (refE f R c D L vs ++ [inE D2 (.slice AV g.inp.length cV) g.inp])) W X [.blk g3 38 #[.int .i64 g.kind, .int .i64 g.lit, .slice AV g.inp.length cV], .blk f 63 #[.slice R L.length c], .row (.slice R L.length c) 38 3 L.length (gcells L vs), .ro D (Ins D L vs), .ro D2 (fun w => IntsD D2 w (.slice AV g.inp.length cV) g.inp)]) 9 [(0, 1), (1, 1), (2, 1), (3, 0), (4, 1), (5, 1), (6, 0), (7, 0), (8, 2)] (by kernel_rfl) (by kernel_rfl) (PQ.then_ (PQ.block (PQ.then_ (PQ.then_ (PQ.block (PQ.then_ PQ.body)))))) (O18).drew ?_
      have O23 : Own (zone (refE f R c D L vs ++ [inE D2 (.slice AV g.inp.length cV) g.inp])) W w15.drew [.blk g3 38 #[.int .i64 g.kind, .int .i64 g.lit, .slice AV g.inp.length cV], .blk f 63 #[.slice R L.length c], .row (.slice R L.length c) 38 3 L.length (gcells L vs), .ro D (Ins D L vs), .ro D2 (fun w => IntsD D2 w (.slice AV g.inp.length cV) g.inp)] := O18.drew
      refine wt1 (v := .pointer (some ⟨f, 0, none⟩)) rfl (fun ρ e W => ex_move (e _ _ rfl)) rfl rfl ?_
      refine wt1 (v := .pointer (some ⟨f, 0, none⟩)) rfl (fun ρ e W => ex_nil (e _ _ rfl)) rfl rfl ?_
      refine wt1 (v := .pointer (some ⟨f, 0, none⟩)) rfl (fun ρ e W => ex_field (q := 0) fi63_0 (e _ _ rfl) rfl) rfl rfl ?_
      refine wt0 (v := .slice R L.length c) rfl (fun ρ e W hW => ex_load1 ty22 (e _ _ rfl) (hW.cell 1 0 rfl rfl)) rfl rfl ?_
      refine wt1 (v := .int .i64 (i : Int)) rfl (fun ρ e W => ex_move (e _ _ rfl)) rfl rfl ?_
      refine wt1 (v := .pointer (some ⟨rg, i * 3, none⟩)) rfl (fun ρ e W => ex_idx (q := i * 3) (o := 0) (g := rg) (i := i) el22 ((e _ _ rfl).trans (congrArg (fun z => Value.slice z _ _) hrg)) (e _ _ rfl) hk (by omega)) rfl rfl ?_
      refine wt0 (v := .agg #[.int .i64 (L[i].kind), .int .i64 (L[i].lit), .slice Ai (L[i].inp.length) ci]) rfl (fun ρ e W hW => ex_loadN (vs := [.int .i64 (L[i].kind), .int .i64 (L[i].lit), .slice Ai (L[i].inp.length) ci]) ty38 (e _ _ rfl) rfl (cells3 (rowcell (hrg ▸ (hW.row 2 rfl) : World.ownsRow _ 0 38 3 (.slice (some ⟨rg, 0, none⟩) _ _) _ _) p0) (rowcell (hrg ▸ (hW.row 2 rfl) : World.ownsRow _ 0 38 3 (.slice (some ⟨rg, 0, none⟩) _ _) _ _) p1) (rowcell (hrg ▸ (hW.row 2 rfl) : World.ownsRow _ 0 38 3 (.slice (some ⟨rg, 0, none⟩) _ _) _ _) p2))) rfl rfl ?_
      refine wt0 (v := .agg #[.int .i64 g.kind, .int .i64 g.lit, .slice AV g.inp.length cV]) rfl (fun ρ e W hW => ex_loadN (vs := [.int .i64 g.kind, .int .i64 g.lit, .slice AV g.inp.length cV]) ty38 (e _ _ rfl) rfl (hW.cells 0 0 rfl rfl)) rfl rfl ?_
      refine wt2_call (args := [.agg #[.int .i64 (L[i].kind), .int .i64 (L[i].lit), .slice Ai (L[i].inp.length) ci], .agg #[.int .i64 g.kind, .int .i64 g.lit, .slice AV g.inp.length cV]]) rfl in_43 rfl rfl rfl ?_
      have h27 := requal_ (g := L[i]) (h := g) ((ins_atD (O23.ro 3 rfl : Ins D L vs _) (O23.get 3 rfl).2.1 hk (by omega) hA).V (fun _ h => h)) ((O23.ro 4 rfl : IntsD D2 _ (.slice AV g.inp.length cV) g.inp).V (O23.get 4 rfl).2.1) (hsL i hk) hsg
      rw [decide_eq_true hq] at h27
      refine h27.mono ?_
      rintro _ w24 ⟨rfl, hb25⟩
      have O26 : Own (zone (refE f R c D L vs ++ [inE D2 (.slice AV g.inp.length cV) g.inp])) W w24 [.blk g3 38 #[.int .i64 g.kind, .int .i64 g.lit, .slice AV g.inp.length cV], .blk f 63 #[.slice R L.length c], .row (.slice R L.length c) 38 3 L.length (gcells L vs), .ro D (Ins D L vs), .ro D2 (fun w => IntsD D2 w (.slice AV g.inp.length cV) g.inp)] := O23.below hb25
      refine ⟨_, rfl, O26, ?_⟩
      refine wt_nil ?_
      refine xw_next K22 ?_
      refine cw_true rfl ?_
      refine cw_seq (fun FK28 K28 => ?_)
      refine cw_region ?_
      refine wl_val (v := .int .i64 (i : Int)) (fun ρ e => ex_move (e _ _ rfl)) rfl rfl ?_
      refine wl_val (v := .int .i64 (i : Int)) (fun ρ e => ex_assign (e _ _ rfl)) rfl rfl ?_
      refine wl_nil ?_
      refine xw_next K28 ?_
      refine cw_ret ?_
      refine xw_blockret ?_
      refine xw_past (by intro h; cases h) ?_
      refine xw_past (by intro h; cases h) ?_
      refine xw_blockret ?_
      refine xw_past (by intro h; cases h) ?_
      refine xw_ret (v := .int .i64 (i : Int)) (fun T hT => res1 rfl T _ (hT 8 _ rfl)) ?_
      exact rfind_old hk hn hq (O26.re [1, 2, 3] rfl : Own (zone (refE f R c D L vs ++ [inE D2 (.slice AV g.inp.length cV) g.inp])) W w24 [.blk f 63 #[.slice R L.length c], .row (.slice R L.length c) 38 3 L.length (gcells L vs), .ro D (Ins D L vs)])
    · skip
      refine cw_seq (fun FK29 K29 => ?_)
      refine cw_seq (fun FK30 K30 => ?_)
      refine cw_region ?_
      refine wl_val (v := .int .i64 (i : Int)) (fun ρ e => ex_move (e _ _ rfl)) rfl rfl ?_
      refine wl_val (v := .pointer (some ⟨f, 0, none⟩)) (fun ρ e => ex_move (e _ _ rfl)) rfl rfl ?_
      refine wl_val (v := .pointer (some ⟨f, 0, none⟩)) (fun ρ e => ex_nil (e _ _ rfl)) rfl rfl ?_
      refine wl_val (v := .pointer (some ⟨f, 0, none⟩)) (fun ρ e => ex_field (q := 0) fi63_0 (e _ _ rfl) rfl) rfl rfl ?_
      refine wl_val (v := .slice R L.length c) (fun ρ e => ex_load1 ty22 (e _ _ rfl) (O18.cell 1 0 rfl rfl)) rfl rfl ?_
      refine wl_val (v := .int .i64 ((L.length : Nat) : Int)) (fun ρ e => ex_len el22 (e _ _ rfl)) rfl rfl ?_
      refine wl_val (v := .bool true) (fun ρ e => ex_cmp (u := (i : Int)) (v := ((L.length : Nat) : Int)) (e _ _ rfl) (e _ _ rfl) (lss1 (by omega))) rfl rfl ?_
      refine wl_nil ?_
      refine xw_next K30 ?_
      refine cw_true rfl ?_
      refine cw_skip ?_
      refine xw_next K29 ?_
      refine cw_seq (fun FK31 K31 => ?_)
      refine cw_block ?_
      refine cw_seq (fun FK32 K32 => ?_)
      refine cw_drawn (fun X => Own (zone (refE f R c D L vs ++ [inE D2 (.slice AV g.inp.length cV) g.inp])) W X [.blk g3 38 #[.int .i64 g.kind, .int .i64 g.lit, .slice AV g.inp.length cV], .blk f 63 #[.slice R L.length c], .row (.slice R L.length c) 38 3 L.length (gcells L vs), .ro D (Ins D L vs), .ro D2 (fun w => IntsD D2 w (.slice AV g.inp.length cV) g.inp)]) 9 [(0, 1), (1, 1), (2, 1), (3, 0), (4, 1), (5, 1), (6, 0), (7, 0), (8, 2)] (by kernel_rfl) (by kernel_rfl) (PQ.then_ (PQ.block (PQ.then_ (PQ.then_ (PQ.block (PQ.then_ PQ.body)))))) (O18).drew ?_
      have O33 : Own (zone (refE f R c D L vs ++ [inE D2 (.slice AV g.inp.length cV) g.inp])) W w15.drew [.blk g3 38 #[.int .i64 g.kind, .int .i64 g.lit, .slice AV g.inp.length cV], .blk f 63 #[.slice R L.length c], .row (.slice R L.length c) 38 3 L.length (gcells L vs), .ro D (Ins D L vs), .ro D2 (fun w => IntsD D2 w (.slice AV g.inp.length cV) g.inp)] := O18.drew
      refine wt1 (v := .pointer (some ⟨f, 0, none⟩)) rfl (fun ρ e W => ex_move (e _ _ rfl)) rfl rfl ?_
      refine wt1 (v := .pointer (some ⟨f, 0, none⟩)) rfl (fun ρ e W => ex_nil (e _ _ rfl)) rfl rfl ?_
      refine wt1 (v := .pointer (some ⟨f, 0, none⟩)) rfl (fun ρ e W => ex_field (q := 0) fi63_0 (e _ _ rfl) rfl) rfl rfl ?_
      refine wt0 (v := .slice R L.length c) rfl (fun ρ e W hW => ex_load1 ty22 (e _ _ rfl) (hW.cell 1 0 rfl rfl)) rfl rfl ?_
      refine wt1 (v := .int .i64 (i : Int)) rfl (fun ρ e W => ex_move (e _ _ rfl)) rfl rfl ?_
      refine wt1 (v := .pointer (some ⟨rg, i * 3, none⟩)) rfl (fun ρ e W => ex_idx (q := i * 3) (o := 0) (g := rg) (i := i) el22 ((e _ _ rfl).trans (congrArg (fun z => Value.slice z _ _) hrg)) (e _ _ rfl) hk (by omega)) rfl rfl ?_
      refine wt0 (v := .agg #[.int .i64 (L[i].kind), .int .i64 (L[i].lit), .slice Ai (L[i].inp.length) ci]) rfl (fun ρ e W hW => ex_loadN (vs := [.int .i64 (L[i].kind), .int .i64 (L[i].lit), .slice Ai (L[i].inp.length) ci]) ty38 (e _ _ rfl) rfl (cells3 (rowcell (hrg ▸ (hW.row 2 rfl) : World.ownsRow _ 0 38 3 (.slice (some ⟨rg, 0, none⟩) _ _) _ _) p0) (rowcell (hrg ▸ (hW.row 2 rfl) : World.ownsRow _ 0 38 3 (.slice (some ⟨rg, 0, none⟩) _ _) _ _) p1) (rowcell (hrg ▸ (hW.row 2 rfl) : World.ownsRow _ 0 38 3 (.slice (some ⟨rg, 0, none⟩) _ _) _ _) p2))) rfl rfl ?_
      refine wt0 (v := .agg #[.int .i64 g.kind, .int .i64 g.lit, .slice AV g.inp.length cV]) rfl (fun ρ e W hW => ex_loadN (vs := [.int .i64 g.kind, .int .i64 g.lit, .slice AV g.inp.length cV]) ty38 (e _ _ rfl) rfl (hW.cells 0 0 rfl rfl)) rfl rfl ?_
      refine wt2_call (args := [.agg #[.int .i64 (L[i].kind), .int .i64 (L[i].lit), .slice Ai (L[i].inp.length) ci], .agg #[.int .i64 g.kind, .int .i64 g.lit, .slice AV g.inp.length cV]]) rfl in_43 rfl rfl rfl ?_
      have h37 := requal_ (g := L[i]) (h := g) ((ins_atD (O33.ro 3 rfl : Ins D L vs _) (O33.get 3 rfl).2.1 hk (by omega) hA).V (fun _ h => h)) ((O33.ro 4 rfl : IntsD D2 _ (.slice AV g.inp.length cV) g.inp).V (O33.get 4 rfl).2.1) (hsL i hk) hsg
      rw [decide_eq_false hq] at h37
      refine h37.mono ?_
      rintro _ w34 ⟨rfl, hb35⟩
      have O36 : Own (zone (refE f R c D L vs ++ [inE D2 (.slice AV g.inp.length cV) g.inp])) W w34 [.blk g3 38 #[.int .i64 g.kind, .int .i64 g.lit, .slice AV g.inp.length cV], .blk f 63 #[.slice R L.length c], .row (.slice R L.length c) 38 3 L.length (gcells L vs), .ro D (Ins D L vs), .ro D2 (fun w => IntsD D2 w (.slice AV g.inp.length cV) g.inp)] := O33.below hb35
      refine ⟨_, rfl, O36, ?_⟩
      refine wt_nil ?_
      refine xw_next K32 ?_
      refine cw_false rfl ?_
      refine cw_skip ?_
      refine xw_block ?_
      refine xw_next K31 ?_
      refine cw_region ?_
      refine wl_val (v := .int .i64 (i : Int)) (fun ρ e => ex_move (e _ _ rfl)) rfl rfl ?_
      refine wl_val (v := .int .i64 ((i + 1 : Nat) : Int)) (fun ρ e => ex_arith (k := .i64) (u := (i : Int)) (v := 1) (e _ _ rfl) (e _ _ rfl) (congrArg some ((congrArg _ (by omega)).trans (wrap_in (u := ((i + 1 : Nat) : Int)) (by omega) (by omega))))) rfl rfl ?_
      refine wl_val (v := .int .i64 ((i + 1 : Nat) : Int)) (fun ρ e => ex_assign (e _ _ rfl)) rfl rfl ?_
      refine wl_nil ?_
      refine xw_round K17 (i + 1) (by show L.length - (i + 1) < L.length - i; omega) ⟨(by show i + 1 ≤ _; omega), (by intro j hj hji; by_cases e : j = i; subst e; exact hq; exact hn j hj (by omega)), O36⟩ ⟨rfl, rfl, rfl, trivial⟩
  · have hie : i = L.length := by omega
    have hx := gidx_no (g := g) (L := L) (i := 0) (fun j hj => hn j hj (by omega))
    have hins : Ins D L vs _ := O18.ro 3 rfl
    refine cw_seq (fun FK38 K38 => ?_)
    refine cw_seq (fun FK39 K39 => ?_)
    refine cw_region ?_
    refine wl_val (v := .int .i64 (i : Int)) (fun ρ e => ex_move (e _ _ rfl)) rfl rfl ?_
    refine wl_val (v := .pointer (some ⟨f, 0, none⟩)) (fun ρ e => ex_move (e _ _ rfl)) rfl rfl ?_
    refine wl_val (v := .pointer (some ⟨f, 0, none⟩)) (fun ρ e => ex_nil (e _ _ rfl)) rfl rfl ?_
    refine wl_val (v := .pointer (some ⟨f, 0, none⟩)) (fun ρ e => ex_field (q := 0) fi63_0 (e _ _ rfl) rfl) rfl rfl ?_
    refine wl_val (v := .slice R L.length c) (fun ρ e => ex_load1 ty22 (e _ _ rfl) (O18.cell 1 0 rfl rfl)) rfl rfl ?_
    refine wl_val (v := .int .i64 ((L.length : Nat) : Int)) (fun ρ e => ex_len el22 (e _ _ rfl)) rfl rfl ?_
    refine wl_val (v := .bool false) (fun ρ e => ex_cmp (u := (i : Int)) (v := ((L.length : Nat) : Int)) (e _ _ rfl) (e _ _ rfl) (lss0 (by omega))) rfl rfl ?_
    refine wl_nil ?_
    refine xw_next K39 ?_
    refine cw_false rfl ?_
    refine cw_exit ?_
    refine xw_past (by intro h; cases h) ?_
    refine xw_past (by intro h; cases h) ?_
    refine xw_here ?_
    refine xw_next K13 ?_
    refine cw_seq (fun FK40 K40 => ?_)
    refine cw_drawn (fun X => Own (zone (refE f R c D L vs ++ [inE D2 (.slice AV g.inp.length cV) g.inp])) W X [.blk g3 38 #[.int .i64 g.kind, .int .i64 g.lit, .slice AV g.inp.length cV], .blk f 63 #[.slice R L.length c], .ro D (Ins D L vs), .ro D2 (fun w => IntsD D2 w (.slice AV g.inp.length cV) g.inp)]) 10 [(0, 1), (1, 1), (2, 1), (3, 1), (4, 0), (5, 0), (6, 2), (7, 2), (8, 1), (9, 1), (10, 3)] (by kernel_rfl) (by kernel_rfl) (PQ.then_ PQ.body) ((O18.re [0, 1, 3, 4] rfl : Own (zone (refE f R c D L vs ++ [inE D2 (.slice AV g.inp.length cV) g.inp])) W w15 [.blk g3 38 #[.int .i64 g.kind, .int .i64 g.lit, .slice AV g.inp.length cV], .blk f 63 #[.slice R L.length c], .ro D (Ins D L vs), .ro D2 (fun w => IntsD D2 w (.slice AV g.inp.length cV) g.inp)])).drew ?_
    have O41 : Own (zone (refE f R c D L vs ++ [inE D2 (.slice AV g.inp.length cV) g.inp])) W w15.drew [.blk g3 38 #[.int .i64 g.kind, .int .i64 g.lit, .slice AV g.inp.length cV], .blk f 63 #[.slice R L.length c], .row (.slice R L.length c) 38 3 L.length (gcells L vs), .ro D (Ins D L vs), .ro D2 (fun w => IntsD D2 w (.slice AV g.inp.length cV) g.inp)] := O18.drew
    refine wt1 (v := .pointer (some ⟨f, 0, none⟩)) rfl (fun ρ e W => ex_move (e _ _ rfl)) rfl rfl ?_
    refine wt1 (v := .pointer (some ⟨f, 0, none⟩)) rfl (fun ρ e W => ex_move (e _ _ rfl)) rfl rfl ?_
    refine wt1 (v := .pointer (some ⟨f, 0, none⟩)) rfl (fun ρ e W => ex_nil (e _ _ rfl)) rfl rfl ?_
    refine wt1 (v := .pointer (some ⟨f, 0, none⟩)) rfl (fun ρ e W => ex_field (q := 0) fi63_0 (e _ _ rfl) rfl) rfl rfl ?_
    refine wt0 (v := .slice R L.length c) rfl (fun ρ e W hW => ex_load1 ty22 (e _ _ rfl) (hW.cell 1 0 rfl rfl)) rfl rfl ?_
    refine wt0 (v := .agg #[.int .i64 g.kind, .int .i64 g.lit, .slice AV g.inp.length cV]) rfl (fun ρ e W hW => ex_loadN (vs := [.int .i64 g.kind, .int .i64 g.lit, .slice AV g.inp.length cV]) ty38 (e _ _ rfl) rfl (hW.cells 0 0 rfl rfl)) rfl rfl ?_
    obtain ⟨g42, w43, r44, O45, hg46, hs47⟩ := own_slice O41 el22 ze38 1 [(0, .agg #[.int .i64 g.kind, .int .i64 g.lit, .slice AV g.inp.length cV])] (cs := #[.int .i64 g.kind, .int .i64 g.lit, .slice AV g.inp.length cV]) (by decide) (by kernel_rfl)
    refine wt2 (v := .slice (some ⟨g42, 0, none⟩) 1 1) rfl (fun ρ e => r44 ρ _ _ _ _ _ _ (e.parts rfl)) rfl rfl (O45.re [1, 2, 4, 5] rfl : Own (zone (refE f R c D L vs ++ [inE D2 (.slice AV g.inp.length cV) g.inp])) W w43 [.blk g3 38 #[.int .i64 g.kind, .int .i64 g.lit, .slice AV g.inp.length cV], .blk f 63 #[.slice R L.length c], .ro D (Ins D L vs), .ro D2 (fun w => IntsD D2 w (.slice AV g.inp.length cV) g.inp)]) ?_
    obtain ⟨A48, c49, w50, r51, O52, hz53, hc54⟩ := own_app1 (O45.re [3, 0, 1, 2, 4, 5] rfl : Own (zone (refE f R c D L vs ++ [inE D2 (.slice AV g.inp.length cV) g.inp])) W w43 [.row (.slice R L.length c) 38 3 L.length (gcells L vs), .blk g42 38 #[.int .i64 g.kind, .int .i64 g.lit, .slice AV g.inp.length cV], .blk g3 38 #[.int .i64 g.kind, .int .i64 g.lit, .slice AV g.inp.length cV], .blk f 63 #[.slice R L.length c], .ro D (Ins D L vs), .ro D2 (fun w => IntsD D2 w (.slice AV g.inp.length cV) g.inp)]) ap22 ((O45.re [3, 0, 1, 2, 4, 5] rfl : Own (zone (refE f R c D L vs ++ [inE D2 (.slice AV g.inp.length cV) g.inp])) W w43 [.row (.slice R L.length c) 38 3 L.length (gcells L vs), .blk g42 38 #[.int .i64 g.kind, .int .i64 g.lit, .slice AV g.inp.length cV], .blk g3 38 #[.int .i64 g.kind, .int .i64 g.lit, .slice AV g.inp.length cV], .blk f 63 #[.slice R L.length c], .ro D (Ins D L vs), .ro D2 (fun w => IntsD D2 w (.slice AV g.inp.length cV) g.inp)]).blk 1 rfl) (cells := [.int .i64 g.kind, .int .i64 g.lit, .slice AV g.inp.length cV]) rfl rfl (by omega) (by omega) (ys := (gcells (L ++ [g]) (vs ++ [Value.slice AV g.inp.length cV]))) (gcells_snoc g (Value.slice AV g.inp.length cV) L vs hins.1).symm
    refine wt2 (v := .slice A48 (L.length + 1) c49) rfl (fun ρ e => r51 ρ _ _ _ _ _ _ _ (e _ _ rfl) (e _ _ rfl)) rfl rfl (O52.re [2, 3, 4, 5] rfl : Own (zone (refE f R c D L vs ++ [inE D2 (.slice AV g.inp.length cV) g.inp])) W w50 [.blk g3 38 #[.int .i64 g.kind, .int .i64 g.lit, .slice AV g.inp.length cV], .blk f 63 #[.slice R L.length c], .ro D (Ins D L vs), .ro D2 (fun w => IntsD D2 w (.slice AV g.inp.length cV) g.inp)]) ?_
    refine wt1 (v := .pointer (some ⟨f, 0, none⟩)) rfl (fun ρ e W => ex_nil (e _ _ rfl)) rfl rfl ?_
    refine wt1 (v := .pointer (some ⟨f, 0, none⟩)) rfl (fun ρ e W => ex_field (q := 0) fi63_0 (e _ _ rfl) rfl) rfl rfl ?_
    obtain ⟨w55, r56, O57, hs58⟩ := own_put (o := 0) (n := 1) (O52.re [3, 0, 1, 2, 4, 5] rfl : Own (zone (refE f R c D L vs ++ [inE D2 (.slice AV g.inp.length cV) g.inp])) W w50 [.blk f 63 #[.slice R L.length c], .row (.slice A48 (L.length + 1) c49) 38 3 (L.length + 1) (gcells (L ++ [g]) (vs ++ [Value.slice AV g.inp.length cV])), .blk g42 38 #[.int .i64 g.kind, .int .i64 g.lit, .slice AV g.inp.length cV], .blk g3 38 #[.int .i64 g.kind, .int .i64 g.lit, .slice AV g.inp.length cV], .ro D (Ins D L vs), .ro D2 (fun w => IntsD D2 w (.slice AV g.inp.length cV) g.inp)]) ty22 (.slice A48 (L.length + 1) c49) [.slice A48 (L.length + 1) c49] (cs' := #[.slice A48 (L.length + 1) c49]) rfl rfl rfl (Nat.le_of_ble_eq_true rfl) rfl
    refine wt3_none rfl (fun ρ e => r56 ρ _ _ _ _ _ _ (e _ _ rfl) (e _ _ rfl)) rfl ?_
    refine wt_nil ?_
    refine xw_next K40 ?_
    refine cw_seq (fun FK59 K59 => ?_)
    refine cw_region ?_
    refine wl_val (v := .pointer (some ⟨f, 0, none⟩)) (fun ρ e => ex_move (e _ _ rfl)) rfl rfl ?_
    refine wl_val (v := .pointer (some ⟨f, 0, none⟩)) (fun ρ e => ex_nil (e _ _ rfl)) rfl rfl ?_
    refine wl_val (v := .pointer (some ⟨f, 0, none⟩)) (fun ρ e => ex_field (q := 0) fi63_0 (e _ _ rfl) rfl) rfl rfl ?_
    refine wl_val (v := .slice A48 (L.length + 1) c49) (fun ρ e => ex_load1 ty22 (e _ _ rfl) (O57.cell 0 0 rfl rfl)) rfl rfl ?_
    refine wl_val (v := .int .i64 ((L.length + 1 : Nat) : Int)) (fun ρ e => ex_len el22 (e _ _ rfl)) rfl rfl ?_
    refine wl_val (v := .int .i64 (L.length : Int)) (fun ρ e => ex_arith (k := .i64) (u := ((L.length + 1 : Nat) : Int)) (v := 1) (e _ _ rfl) (e _ _ rfl) (congrArg some ((congrArg _ (by omega)).trans (wrap_in (u := (L.length : Int)) (by omega) (by omega))))) rfl rfl ?_
    refine wl_val (v := .int .i64 (L.length : Int)) (fun ρ e => ex_assign (e _ _ rfl)) rfl rfl ?_
    refine wl_nil ?_
    refine xw_next K59 ?_
    refine cw_ret ?_
    refine xw_ret (v := .int .i64 (L.length : Int)) (fun T hT => res1 rfl T _ (hT 8 _ rfl)) ?_
    exact rfind_new hx (O57.re [0, 1, 4, 5] rfl : Own (zone (refE f R c D L vs ++ [inE D2 (.slice AV g.inp.length cV) g.inp])) W w55 [.blk f 63 #[.slice A48 (L.length + 1) c49], .row (.slice A48 (L.length + 1) c49) 38 3 (L.length + 1) (gcells (L ++ [g]) (vs ++ [Value.slice AV g.inp.length cV])), .ro D (Ins D L vs), .ro D2 (fun w => IntsD D2 w (.slice AV g.inp.length cV) g.inp)])
end
end Go.Proofs.YtbemhgojfehnjaaDoor
namespace Go.Proofs.YtbemhgojfehnjaaDoor
open Go Go.RowKit
section
variable {Z : Bool → Nat → Prop} {w0 W : World} {A rest : List En} {f c : Nat} {R : Option Addr} {D D2 : Nat → Prop} {L : List Gate} {vs : List Value} {V : Value} {g : Gate}
def shortL (L : List Gate) : Prop := (∀ i (h : i < L.length), L[i].inp.length ≤ 1000000000) ∧ ∀ i (h : i < L.length), L[i].kind = 3 → 0 < L[i].inp.length
theorem RPost.eq {q q' : List Gate × Int} {e : Ending} {w' : World} (h : RPost A W f q' e w') (hq : q = q') : RPost A W f q e w' := hq ▸ h
theorem call_rfind (O : Own Z w0 W (refE f R c D L vs ++ (inE D2 V g.inp :: rest))) (ok : shortL L) (sg : g.inp.length ≤ 1000000000) (hL : L.length ≤ 1000000) :
    Calls Tryd.prog 72 #[.pointer (some ⟨f, 0, none⟩), .int .i64 g.kind, .int .i64 g.lit, V] W fun e w' => ∃ R' c' D' vs', e = .returned (.int .i64 (findG L g).2) ∧ Own Z w0 w' (refE f R' c' D' (findG L g).1 vs' ++ rest) := by
  have O' : Own Z w0 W ((refE f R c D L vs ++ [inE D2 V g.inp]) ++ rest) := by
    rw [List.append_assoc]; exact O
  exact RPost.use O' (rfind_ O'.hand ok.1 sg hL)
theorem ris1 (O : Own Z w0 W (refE f R c D L vs ++ rest)) {i k' : Int} (hi : 0 ≤ i ∧ i < L.length) (h : kindAt L i = k') : Calls Tryd.prog 83 #[.pointer (some ⟨f, 0, none⟩), .int .i64 i, .int .i64 k'] W fun e w' => e = .returned (.bool true) ∧ Below W.heap.size W w' := by
  obtain ⟨n, rfl⟩ : ∃ n : Nat, i = n := ⟨i.toNat, by omega⟩
  have := ris_ O (i := n) (by omega) k'
  rw [h, beq_self_eq_true] at this
  exact this
theorem ris0 (O : Own Z w0 W (refE f R c D L vs ++ rest)) {i k' : Int} (hi : 0 ≤ i ∧ i < L.length) (h : ¬ kindAt L i = k') : Calls Tryd.prog 83 #[.pointer (some ⟨f, 0, none⟩), .int .i64 i, .int .i64 k'] W fun e w' => e = .returned (.bool false) ∧ Below W.heap.size W w' := by
  obtain ⟨n, rfl⟩ : ∃ n : Nat, i = n := ⟨i.toNat, by omega⟩
  have := ris_ O (i := n) (by omega) k'
  rw [beq_eq_false_iff_ne.2 h] at this
  exact this
theorem rnot_ {j : Int} (O0 : Own (zone (refE f R c D L vs)) W W (refE f R c D L vs)) (hj : 0 ≤ j ∧ j < L.length) (ok : shortL L) (okl : ∀ i (h : i < L.length), -1000000 ≤ L[i].lit ∧ L[i].lit ≤ 1000000) (hL : L.length ≤ 1000000) :
    Calls Tryd.prog 67 #[.pointer (some ⟨f, 0, none⟩), .int .i64 j] W (RPost (refE f R c D L vs) W f (notG L j)) := by
  obtain ⟨i, rfl⟩ : ∃ n : Nat, j = n := ⟨j.toNat, by omega⟩
  have hi : i < L.length := by omega
  obtain ⟨r, v, rfl, hr, hv, hD, h0, h1, h2⟩ := ref_gate (rest := []) O0 hi
  obtain ⟨AI, cI, rfl⟩ := hD.slice
  have sl := okl i hi
  refine sx_enter (args := [.pointer (some ⟨f, 0, none⟩), .int .i64 (i : Int)]) Tryd.func67 rfl rfl (by simp) ?_
  refine cw_seq (fun FK1 K1 => ?_)
  refine cw_region ?_
  refine wl_val (v := .int .i64 0) (fun ρ e => ex_assign (e _ _ rfl)) rfl rfl ?_
  refine wl_nil ?_
  refine xw_next K1 ?_
  refine cw_seq (fun FK2 K2 => ?_)
  refine cw_region ?_
  refine wl_val (v := .pointer (some ⟨f, 0, none⟩)) (fun ρ e => ex_move (e _ _ rfl)) rfl rfl ?_
  refine wl_val (v := .pointer (some ⟨f, 0, none⟩)) (fun ρ e => ex_nil (e _ _ rfl)) rfl rfl ?_
  refine wl_val (v := .pointer (some ⟨f, 0, none⟩)) (fun ρ e => ex_field (q := 0) fi63_0 (e _ _ rfl) rfl) rfl rfl ?_
  refine wl_val (v := .slice (some ⟨r, 0, none⟩) L.length c) (fun ρ e => ex_load1 ty22 (e _ _ rfl) (O0.cell 0 0 rfl rfl)) rfl rfl ?_
  refine wl_val (v := .int .i64 (i : Int)) (fun ρ e => ex_move (e _ _ rfl)) rfl rfl ?_
  refine wl_val (v := .pointer (some ⟨r, i * 3, none⟩)) (fun ρ e => ex_idx (q := i * 3) el22 (e _ _ rfl) (e _ _ rfl) hi (by omega)) rfl rfl ?_
  refine wl_val (v := .agg #[.int .i64 (L[i].kind), .int .i64 (L[i].lit), .slice AI (L[i].inp.length) cI]) (fun ρ e => ex_loadN (vs := [.int .i64 (L[i].kind), .int .i64 (L[i].lit), .slice AI (L[i].inp.length) cI]) ty38 (e _ _ rfl) rfl (cells3 h0 h1 h2)) rfl rfl ?_
  obtain ⟨g3, w4, r5, O6, hg7, hs8⟩ := own_alloc O0 38 ze38 rfl
  refine wl_val (v := .pointer (some ⟨g3, 0, none⟩)) (fun ρ e => r5 ρ _ _ _ _ _) rfl rfl ?_
  obtain ⟨w9, r10, O11, hs12⟩ := own_put (o := 0) (n := 3) O6 ty38 (.agg #[.int .i64 (L[i].kind), .int .i64 (L[i].lit), .slice AI (L[i].inp.length) cI]) [.int .i64 (L[i].kind), .int .i64 (L[i].lit), .slice AI (L[i].inp.length) cI] (cs' := #[.int .i64 (L[i].kind), .int .i64 (L[i].lit), .slice AI (L[i].inp.length) cI]) rfl rfl rfl (Nat.le_of_ble_eq_true rfl) rfl
  refine wl_none (fun ρ e => r10 ρ _ _ _ _ _ _ (e _ _ rfl) (e _ _ rfl)) rfl ?_
  refine wl_nil ?_
  refine xw_next K2 ?_
  refine cw_seq (fun FK13 K13 => ?_)
  refine cw_seq (fun FK14 K14 => ?_)
  refine cw_region ?_
  refine wl_val (v := .pointer (some ⟨g3, 0, none⟩)) (fun ρ e => ex_field (q := 0) fi38_0 (e _ _ rfl) rfl) rfl rfl ?_
  refine wl_val (v := .int .i64 (L[i].kind)) (fun ρ e => ex_load1 ty3 (e _ _ rfl) (O11.cell 0 0 rfl rfl)) rfl rfl ?_
  by_cases c15 : L[i].kind = 0
  · skip
    refine wl_val (v := .bool true) (fun ρ e => ex_cmp (u := L[i].kind) (v := 0) (e _ _ rfl) (e _ _ rfl) (eql1 (by omega))) rfl rfl ?_
    refine wl_nil ?_
    refine xw_next K14 ?_
    refine cw_true rfl ?_
    refine cw_seq (fun FK16 K16 => ?_)
    refine cw_region ?_
    refine wl_val (v := .pointer (some ⟨f, 0, none⟩)) (fun ρ e => ex_move (e _ _ rfl)) rfl rfl ?_
    refine wl_call (args := [.pointer (some ⟨f, 0, none⟩), .int .i64 1, .int .i64 0, .slice none 0 0]) in_72 rfl rfl rfl ?_
    have O17 : Own (zone (refE f (some ⟨r, 0, none⟩) c D L vs)) W w9 [.ro (fun _ => False) (fun w => IntsD (fun _ => False) w (.slice none 0 0) ([])), .blk g3 38 #[.int .i64 (L[i].kind), .int .i64 (L[i].lit), .slice AI (L[i].inp.length) cI], .blk f 63 #[.slice (some ⟨r, 0, none⟩) L.length c], .row (.slice (some ⟨r, 0, none⟩) L.length c) 38 3 L.length (gcells L vs), .ro D (Ins D L vs)] := O11.nilin
    refine (call_rfind (f := f) (R := (some ⟨r, 0, none⟩)) (c := c) (D := D) (L := L) (vs := vs) (D2 := (fun _ => False)) (V := .slice none 0 0) (g := ⟨1, 0, []⟩) (rest := [.blk g3 38 #[.int .i64 (L[i].kind), .int .i64 (L[i].lit), .slice AI (L[i].inp.length) cI]]) (O17.re [2, 3, 4, 0, 1] rfl : Own (zone (refE f (some ⟨r, 0, none⟩) c D L vs)) W w9 [.blk f 63 #[.slice (some ⟨r, 0, none⟩) L.length c], .row (.slice (some ⟨r, 0, none⟩) L.length c) 38 3 L.length (gcells L vs), .ro D (Ins D L vs), .ro (fun _ => False) (fun w => IntsD (fun _ => False) w (.slice none 0 0) ([])), .blk g3 38 #[.int .i64 (L[i].kind), .int .i64 (L[i].lit), .slice AI (L[i].inp.length) cI]]) ok (Nat.le_of_ble_eq_true rfl) hL).mono ?_
    rintro _ w18 ⟨R19, c20, D21, vs22, rfl, O23⟩
    refine ⟨_, rfl, ?_⟩
    refine wl_val (v := .int .i64 ((findG L ⟨1, 0, []⟩).2)) (fun ρ e => ex_assign (e _ _ rfl)) rfl rfl ?_
    refine wl_nil ?_
    refine xw_next K16 ?_
    refine cw_ret ?_
    refine xw_past (by intro h; cases h) ?_
    refine xw_ret (v := .int .i64 ((findG L ⟨1, 0, []⟩).2)) (fun T hT => res1 rfl T _ (hT 4 _ rfl)) ?_
    exact RPost.eq ⟨_, _, _, _, rfl, (O23.re [0, 1, 2] rfl : Own (zone (refE f (some ⟨r, 0, none⟩) c D L vs)) W w18 [.blk f 63 #[.slice R19 (((findG L ⟨1, 0, []⟩).1).length) c20], .row (.slice R19 (((findG L ⟨1, 0, []⟩).1).length) c20) 38 3 (((findG L ⟨1, 0, []⟩).1).length) (gcells ((findG L ⟨1, 0, []⟩).1) vs22), .ro D21 (Ins D21 ((findG L ⟨1, 0, []⟩).1) vs22)])⟩ (by rw [notG_eq hi, if_pos c15])
  · skip
    refine wl_val (v := .bool false) (fun ρ e => ex_cmp (u := L[i].kind) (v := 0) (e _ _ rfl) (e _ _ rfl) (eql0 (by omega))) rfl rfl ?_
    refine wl_nil ?_
    refine xw_next K14 ?_
    refine cw_false rfl ?_
    refine cw_skip ?_
    refine xw_next K13 ?_
    refine cw_seq (fun FK24 K24 => ?_)
    refine cw_seq (fun FK25 K25 => ?_)
    refine cw_region ?_
    refine wl_val (v := .pointer (some ⟨g3, 0, none⟩)) (fun ρ e => ex_field (q := 0) fi38_0 (e _ _ rfl) rfl) rfl rfl ?_
    refine wl_val (v := .int .i64 (L[i].kind)) (fun ρ e => ex_load1 ty3 (e _ _ rfl) (O11.cell 0 0 rfl rfl)) rfl rfl ?_
    by_cases c26 : L[i].kind = 1
    · skip
      refine wl_val (v := .bool true) (fun ρ e => ex_cmp (u := L[i].kind) (v := 1) (e _ _ rfl) (e _ _ rfl) (eql1 (by omega))) rfl rfl ?_
      refine wl_nil ?_
      refine xw_next K25 ?_
      refine cw_true rfl ?_
      refine cw_seq (fun FK27 K27 => ?_)
      refine cw_region ?_
      refine wl_val (v := .pointer (some ⟨f, 0, none⟩)) (fun ρ e => ex_move (e _ _ rfl)) rfl rfl ?_
      refine wl_call (args := [.pointer (some ⟨f, 0, none⟩), .int .i64 0, .int .i64 0, .slice none 0 0]) in_72 rfl rfl rfl ?_
      have O28 : Own (zone (refE f (some ⟨r, 0, none⟩) c D L vs)) W w9 [.ro (fun _ => False) (fun w => IntsD (fun _ => False) w (.slice none 0 0) ([])), .blk g3 38 #[.int .i64 (L[i].kind), .int .i64 (L[i].lit), .slice AI (L[i].inp.length) cI], .blk f 63 #[.slice (some ⟨r, 0, none⟩) L.length c], .row (.slice (some ⟨r, 0, none⟩) L.length c) 38 3 L.length (gcells L vs), .ro D (Ins D L vs)] := O11.nilin
      refine (call_rfind (f := f) (R := (some ⟨r, 0, none⟩)) (c := c) (D := D) (L := L) (vs := vs) (D2 := (fun _ => False)) (V := .slice none 0 0) (g := ⟨0, 0, []⟩) (rest := [.blk g3 38 #[.int .i64 (L[i].kind), .int .i64 (L[i].lit), .slice AI (L[i].inp.length) cI]]) (O28.re [2, 3, 4, 0, 1] rfl : Own (zone (refE f (some ⟨r, 0, none⟩) c D L vs)) W w9 [.blk f 63 #[.slice (some ⟨r, 0, none⟩) L.length c], .row (.slice (some ⟨r, 0, none⟩) L.length c) 38 3 L.length (gcells L vs), .ro D (Ins D L vs), .ro (fun _ => False) (fun w => IntsD (fun _ => False) w (.slice none 0 0) ([])), .blk g3 38 #[.int .i64 (L[i].kind), .int .i64 (L[i].lit), .slice AI (L[i].inp.length) cI]]) ok (Nat.le_of_ble_eq_true rfl) hL).mono ?_
      rintro _ w29 ⟨R30, c31, D32, vs33, rfl, O34⟩
      refine ⟨_, rfl, ?_⟩
      refine wl_val (v := .int .i64 ((findG L ⟨0, 0, []⟩).2)) (fun ρ e => ex_assign (e _ _ rfl)) rfl rfl ?_
      refine wl_nil ?_
      refine xw_next K27 ?_
      refine cw_ret ?_
      refine xw_past (by intro h; cases h) ?_
      refine xw_ret (v := .int .i64 ((findG L ⟨0, 0, []⟩).2)) (fun T hT => res1 rfl T _ (hT 4 _ rfl)) ?_
      exact RPost.eq ⟨_, _, _, _, rfl, (O34.re [0, 1, 2] rfl : Own (zone (refE f (some ⟨r, 0, none⟩) c D L vs)) W w29 [.blk f 63 #[.slice R30 (((findG L ⟨0, 0, []⟩).1).length) c31], .row (.slice R30 (((findG L ⟨0, 0, []⟩).1).length) c31) 38 3 (((findG L ⟨0, 0, []⟩).1).length) (gcells ((findG L ⟨0, 0, []⟩).1) vs33), .ro D32 (Ins D32 ((findG L ⟨0, 0, []⟩).1) vs33)])⟩ (by rw [notG_eq hi, if_neg c15, if_pos c26])
    · skip
      refine wl_val (v := .bool false) (fun ρ e => ex_cmp (u := L[i].kind) (v := 1) (e _ _ rfl) (e _ _ rfl) (eql0 (by omega))) rfl rfl ?_
      refine wl_nil ?_
      refine xw_next K25 ?_
      refine cw_false rfl ?_
      refine cw_skip ?_
      refine xw_next K24 ?_
      refine cw_seq (fun FK35 K35 => ?_)
      refine cw_seq (fun FK36 K36 => ?_)
      refine cw_region ?_
      refine wl_val (v := .pointer (some ⟨g3, 0, none⟩)) (fun ρ e => ex_field (q := 0) fi38_0 (e _ _ rfl) rfl) rfl rfl ?_
      refine wl_val (v := .int .i64 (L[i].kind)) (fun ρ e => ex_load1 ty3 (e _ _ rfl) (O11.cell 0 0 rfl rfl)) rfl rfl ?_
      by_cases c37 : L[i].kind = 2
      · skip
        refine wl_val (v := .bool true) (fun ρ e => ex_cmp (u := L[i].kind) (v := 2) (e _ _ rfl) (e _ _ rfl) (eql1 (by omega))) rfl rfl ?_
        refine wl_nil ?_
        refine xw_next K36 ?_
        refine cw_true rfl ?_
        refine cw_seq (fun FK38 K38 => ?_)
        refine cw_region ?_
        refine wl_val (v := .pointer (some ⟨f, 0, none⟩)) (fun ρ e => ex_move (e _ _ rfl)) rfl rfl ?_
        refine wl_val (v := .pointer (some ⟨g3, 1, none⟩)) (fun ρ e => ex_field (q := 1) fi38_1 (e _ _ rfl) rfl) rfl rfl ?_
        refine wl_val (v := .int .i64 (L[i].lit)) (fun ρ e => ex_load1 ty3 (e _ _ rfl) (O11.cell 0 1 rfl rfl)) rfl rfl ?_
        refine wl_val (v := .int .i64 (-(L[i].lit))) (fun ρ e => ex_minus (e _ _ rfl) (wrap_in (by omega) (by omega))) rfl rfl ?_
        refine wl_call (args := [.pointer (some ⟨f, 0, none⟩), .int .i64 2, .int .i64 (-(L[i].lit)), .slice none 0 0]) in_72 rfl rfl rfl ?_
        have O39 : Own (zone (refE f (some ⟨r, 0, none⟩) c D L vs)) W w9 [.ro (fun _ => False) (fun w => IntsD (fun _ => False) w (.slice none 0 0) ([])), .blk g3 38 #[.int .i64 (L[i].kind), .int .i64 (L[i].lit), .slice AI (L[i].inp.length) cI], .blk f 63 #[.slice (some ⟨r, 0, none⟩) L.length c], .row (.slice (some ⟨r, 0, none⟩) L.length c) 38 3 L.length (gcells L vs), .ro D (Ins D L vs)] := O11.nilin
        refine (call_rfind (f := f) (R := (some ⟨r, 0, none⟩)) (c := c) (D := D) (L := L) (vs := vs) (D2 := (fun _ => False)) (V := .slice none 0 0) (g := ⟨2, (-(L[i].lit)), []⟩) (rest := [.blk g3 38 #[.int .i64 (L[i].kind), .int .i64 (L[i].lit), .slice AI (L[i].inp.length) cI]]) (O39.re [2, 3, 4, 0, 1] rfl : Own (zone (refE f (some ⟨r, 0, none⟩) c D L vs)) W w9 [.blk f 63 #[.slice (some ⟨r, 0, none⟩) L.length c], .row (.slice (some ⟨r, 0, none⟩) L.length c) 38 3 L.length (gcells L vs), .ro D (Ins D L vs), .ro (fun _ => False) (fun w => IntsD (fun _ => False) w (.slice none 0 0) ([])), .blk g3 38 #[.int .i64 (L[i].kind), .int .i64 (L[i].lit), .slice AI (L[i].inp.length) cI]]) ok (Nat.le_of_ble_eq_true rfl) hL).mono ?_
        rintro _ w40 ⟨R41, c42, D43, vs44, rfl, O45⟩
        refine ⟨_, rfl, ?_⟩
        refine wl_val (v := .int .i64 ((findG L ⟨2, (-(L[i].lit)), []⟩).2)) (fun ρ e => ex_assign (e _ _ rfl)) rfl rfl ?_
        refine wl_nil ?_
        refine xw_next K38 ?_
        refine cw_ret ?_
        refine xw_past (by intro h; cases h) ?_
        refine xw_ret (v := .int .i64 ((findG L ⟨2, (-(L[i].lit)), []⟩).2)) (fun T hT => res1 rfl T _ (hT 4 _ rfl)) ?_
        exact RPost.eq ⟨_, _, _, _, rfl, (O45.re [0, 1, 2] rfl : Own (zone (refE f (some ⟨r, 0, none⟩) c D L vs)) W w40 [.blk f 63 #[.slice R41 (((findG L ⟨2, (-(L[i].lit)), []⟩).1).length) c42], .row (.slice R41 (((findG L ⟨2, (-(L[i].lit)), []⟩).1).length) c42) 38 3 (((findG L ⟨2, (-(L[i].lit)), []⟩).1).length) (gcells ((findG L ⟨2, (-(L[i].lit)), []⟩).1) vs44), .ro D43 (Ins D43 ((findG L ⟨2, (-(L[i].lit)), []⟩).1) vs44)])⟩ (by rw [notG_eq hi, if_neg c15, if_neg c26, if_pos c37])
      · skip
        refine wl_val (v := .bool false) (fun ρ e => ex_cmp (u := L[i].kind) (v := 2) (e _ _ rfl) (e _ _ rfl) (eql0 (by omega))) rfl rfl ?_
        refine wl_nil ?_
        refine xw_next K36 ?_
        refine cw_false rfl ?_
        refine cw_skip ?_
        refine xw_next K35 ?_
        refine cw_seq (fun FK46 K46 => ?_)
        refine cw_seq (fun FK47 K47 => ?_)
        refine cw_region ?_
        refine wl_val (v := .pointer (some ⟨g3, 0, none⟩)) (fun ρ e => ex_field (q := 0) fi38_0 (e _ _ rfl) rfl) rfl rfl ?_
        refine wl_val (v := .int .i64 (L[i].kind)) (fun ρ e => ex_load1 ty3 (e _ _ rfl) (O11.cell 0 0 rfl rfl)) rfl rfl ?_
        by_cases c48 : L[i].kind = 3
        · skip
          have hn3 : 0 < L[i].inp.length := ok.2 i hi c48
          obtain ⟨b, o, cJ, hbI⟩ := hD.form hn3
          refine wl_val (v := .bool true) (fun ρ e => ex_cmp (u := L[i].kind) (v := 3) (e _ _ rfl) (e _ _ rfl) (eql1 (by omega))) rfl rfl ?_
          refine wl_nil ?_
          refine xw_next K47 ?_
          refine cw_true rfl ?_
          refine cw_seq (fun FK49 K49 => ?_)
          refine cw_region ?_
          refine wl_val (v := .pointer (some ⟨g3, 2, none⟩)) (fun ρ e => ex_field (q := 2) fi38_2 (e _ _ rfl) rfl) rfl rfl ?_
          refine wl_val (v := .slice AI (L[i].inp.length) cI) (fun ρ e => ex_load1 ty36 (e _ _ rfl) (O11.cell 0 2 rfl rfl)) rfl rfl ?_
          refine wl_val (v := .pointer (some ⟨b, o, none⟩)) (fun ρ e => ex_idx (q := o) (o := o) el36 ((e _ _ rfl).trans hbI) (i := 0) (e _ _ rfl) hn3 (by omega)) rfl rfl ?_
          refine wl_val (v := .int .i64 (L[i].inp[0])) (fun ρ e => ex_load1 ty3 (e _ _ rfl) ((((O11.ro 3 rfl : Ins D L vs _).2 i _ _ (List.getElem?_eq_getElem hi) (hv.trans (congrArg some hbI))).cell hn3))) rfl rfl ?_
          refine wl_val (v := .int .i64 (L[i].inp[0])) (fun ρ e => ex_assign (e _ _ rfl)) rfl rfl ?_
          refine wl_nil ?_
          refine xw_next K49 ?_
          refine cw_ret ?_
          refine xw_past (by intro h; cases h) ?_
          refine xw_ret (v := .int .i64 (L[i].inp[0])) (fun T hT => res1 rfl T _ (hT 4 _ rfl)) ?_
          refine RPost.eq (q' := (L, L[i].inp[0])) ⟨_, _, _, _, rfl, (O11.re [1, 2, 3] rfl : Own (zone (refE f (some ⟨r, 0, none⟩) c D L vs)) W w9 [.blk f 63 #[.slice (some ⟨r, 0, none⟩) L.length c], .row (.slice (some ⟨r, 0, none⟩) L.length c) 38 3 L.length (gcells L vs), .ro D (Ins D L vs)])⟩ ?_
          rw [notG_eq hi, if_neg c15, if_neg c26, if_neg c37, if_pos c48]
          simp [List.getElem?_eq_getElem hn3]
        · skip
          refine wl_val (v := .bool false) (fun ρ e => ex_cmp (u := L[i].kind) (v := 3) (e _ _ rfl) (e _ _ rfl) (eql0 (by omega))) rfl rfl ?_
          refine wl_nil ?_
          refine xw_next K47 ?_
          refine cw_false rfl ?_
          refine cw_skip ?_
          refine xw_next K46 ?_
          refine cw_seq (fun FK50 K50 => ?_)
          refine cw_region ?_
          refine wl_val (v := .pointer (some ⟨f, 0, none⟩)) (fun ρ e => ex_move (e _ _ rfl)) rfl rfl ?_
          refine wl_val (v := .int .i64 (i : Int)) (fun ρ e => ex_move (e _ _ rfl)) rfl rfl ?_
          obtain ⟨g51, w52, r53, O54, hg55, hs56⟩ := own_slice O11 el36 ze3 1 [(0, .int .i64 (i : Int))] (cs := #[.int .i64 (i : Int)]) (by decide) (by kernel_rfl)
          refine wl_val (v := .slice (some ⟨g51, 0, none⟩) 1 1) (fun ρ e => r53 ρ _ _ _ _ _ _ (e.parts rfl)) rfl rfl ?_
          refine wl_call (args := [.pointer (some ⟨f, 0, none⟩), .int .i64 3, .int .i64 0, .slice (some ⟨g51, 0, none⟩) 1 1]) in_72 rfl rfl rfl ?_
          have O57 : Own (zone (refE f (some ⟨r, 0, none⟩) c D L vs)) W w52 [.ro (fun k => k = g51) (fun w => IntsD (fun k => k = g51) w (.slice (some ⟨g51, 0, none⟩) 1 1) ([(i : Int)])), .blk g3 38 #[.int .i64 (L[i].kind), .int .i64 (L[i].lit), .slice AI (L[i].inp.length) cI], .blk f 63 #[.slice (some ⟨r, 0, none⟩) L.length c], .row (.slice (some ⟨r, 0, none⟩) L.length c) 38 3 L.length (gcells L vs), .ro D (Ins D L vs)] := Own.blkin (l := [(i : Int)]) O54 rfl rfl (by decide)
          refine (call_rfind (f := f) (R := (some ⟨r, 0, none⟩)) (c := c) (D := D) (L := L) (vs := vs) (D2 := (fun k => k = g51)) (V := .slice (some ⟨g51, 0, none⟩) 1 1) (g := ⟨3, 0, [(i : Int)]⟩) (rest := [.blk g3 38 #[.int .i64 (L[i].kind), .int .i64 (L[i].lit), .slice AI (L[i].inp.length) cI]]) (O57.re [2, 3, 4, 0, 1] rfl : Own (zone (refE f (some ⟨r, 0, none⟩) c D L vs)) W w52 [.blk f 63 #[.slice (some ⟨r, 0, none⟩) L.length c], .row (.slice (some ⟨r, 0, none⟩) L.length c) 38 3 L.length (gcells L vs), .ro D (Ins D L vs), .ro (fun k => k = g51) (fun w => IntsD (fun k => k = g51) w (.slice (some ⟨g51, 0, none⟩) 1 1) ([(i : Int)])), .blk g3 38 #[.int .i64 (L[i].kind), .int .i64 (L[i].lit), .slice AI (L[i].inp.length) cI]]) ok (Nat.le_of_ble_eq_true rfl) hL).mono ?_
          rintro _ w58 ⟨R59, c60, D61, vs62, rfl, O63⟩
          refine ⟨_, rfl, ?_⟩
          refine wl_val (v := .int .i64 ((findG L ⟨3, 0, [(i : Int)]⟩).2)) (fun ρ e => ex_assign (e _ _ rfl)) rfl rfl ?_
          refine wl_nil ?_
          refine xw_next K50 ?_
          refine cw_ret ?_
          refine xw_ret (v := .int .i64 ((findG L ⟨3, 0, [(i : Int)]⟩).2)) (fun T hT => res1 rfl T _ (hT 4 _ rfl)) ?_
          exact RPost.eq ⟨_, _, _, _, rfl, (O63.re [0, 1, 2] rfl : Own (zone (refE f (some ⟨r, 0, none⟩) c D L vs)) W w58 [.blk f 63 #[.slice R59 (((findG L ⟨3, 0, [(i : Int)]⟩).1).length) c60], .row (.slice R59 (((findG L ⟨3, 0, [(i : Int)]⟩).1).length) c60) 38 3 (((findG L ⟨3, 0, [(i : Int)]⟩).1).length) (gcells ((findG L ⟨3, 0, [(i : Int)]⟩).1) vs62), .ro D61 (Ins D61 ((findG L ⟨3, 0, [(i : Int)]⟩).1) vs62)])⟩ (by rw [notG_eq hi, if_neg c15, if_neg c26, if_neg c37, if_neg c48])
end
end Go.Proofs.YtbemhgojfehnjaaDoor
namespace Go.Proofs.YtbemhgojfehnjaaDoor
open Go Go.RowKit
section
variable {W : World} {f c : Nat} {R : Option Addr} {D : Nat → Prop} {L : List Gate} {vs : List Value}
theorem riff_ {a b : Int} (O0 : Own (zone (refE f R c D L vs)) W W (refE f R c D L vs)) (ha : 0 ≤ a ∧ a < L.length) (hb : 0 ≤ b ∧ b < L.length) (ok : shortL L) (okl : ∀ i (h : i < L.length), -1000000 ≤ L[i].lit ∧ L[i].lit ≤ 1000000) (hL : L.length ≤ 1000000) :
    Calls Tryd.prog 70 #[.pointer (some ⟨f, 0, none⟩), .int .i64 a, .int .i64 b] W (RPost (refE f R c D L vs) W f (iffG L a b)) := by
  refine sx_enter (args := [.pointer (some ⟨f, 0, none⟩), .int .i64 a, .int .i64 b]) Tryd.func70 rfl rfl (by simp) ?_
  refine cw_seq (fun FK1 K1 => ?_)
  refine cw_region ?_
  refine wl_val (v := .int .i64 0) (fun ρ e => ex_assign (e _ _ rfl)) rfl rfl ?_
  refine wl_nil ?_
  refine xw_next K1 ?_
  refine cw_seq (fun FK2 K2 => ?_)
  refine cw_seq (fun FK3 K3 => ?_)
  refine cw_region ?_
  refine wl_val (v := .int .i64 a) (fun ρ e => ex_move (e _ _ rfl)) rfl rfl ?_
  refine wl_val (v := .int .i64 b) (fun ρ e => ex_move (e _ _ rfl)) rfl rfl ?_
  by_cases c4 : a = b
  · skip
    refine wl_val (v := .bool true) (fun ρ e => ex_cmp (u := a) (v := b) (e _ _ rfl) (e _ _ rfl) (eql1 (by omega))) rfl rfl ?_
    refine wl_nil ?_
    refine xw_next K3 ?_
    refine cw_true rfl ?_
    refine cw_seq (fun FK5 K5 => ?_)
    refine cw_region ?_
    refine wl_val (v := .pointer (some ⟨f, 0, none⟩)) (fun ρ e => ex_move (e _ _ rfl)) rfl rfl ?_
    refine wl_call (args := [.pointer (some ⟨f, 0, none⟩), .int .i64 1, .int .i64 0, .slice none 0 0]) in_72 rfl rfl rfl ?_
    have O6 : Own (zone (refE f R c D L vs)) W W [.ro (fun _ => False) (fun w => IntsD (fun _ => False) w (.slice none 0 0) ([])), .blk f 63 #[.slice R L.length c], .row (.slice R L.length c) 38 3 L.length (gcells L vs), .ro D (Ins D L vs)] := O0.nilin
    refine (call_rfind (f := f) (R := R) (c := c) (D := D) (L := L) (vs := vs) (D2 := (fun _ => False)) (V := .slice none 0 0) (g := ⟨1, 0, []⟩) (rest := []) (O6.re [1, 2, 3, 0] rfl : Own (zone (refE f R c D L vs)) W W [.blk f 63 #[.slice R L.length c], .row (.slice R L.length c) 38 3 L.length (gcells L vs), .ro D (Ins D L vs), .ro (fun _ => False) (fun w => IntsD (fun _ => False) w (.slice none 0 0) ([]))]) ok (Nat.le_of_ble_eq_true rfl) hL).mono ?_
    rintro _ w7 ⟨R8, c9, D10, vs11, rfl, O12⟩
    refine ⟨_, rfl, ?_⟩
    refine wl_val (v := .int .i64 ((findG L ⟨1, 0, []⟩).2)) (fun ρ e => ex_assign (e _ _ rfl)) rfl rfl ?_
    refine wl_nil ?_
    refine xw_next K5 ?_
    refine cw_ret ?_
    refine xw_past (by intro h; cases h) ?_
    refine xw_ret (v := .int .i64 ((findG L ⟨1, 0, []⟩).2)) (fun T hT => res1 rfl T _ (hT 6 _ rfl)) ?_
    exact RPost.eq ⟨_, _, _, _, rfl, O12⟩ (by rw [iffG, if_pos c4])
  · skip
    refine wl_val (v := .bool false) (fun ρ e => ex_cmp (u := a) (v := b) (e _ _ rfl) (e _ _ rfl) (eql0 (by omega))) rfl rfl ?_
    refine wl_nil ?_
    refine xw_next K3 ?_
    refine cw_false rfl ?_
    refine cw_skip ?_
    refine xw_next K2 ?_
    refine cw_seq (fun FK13 K13 => ?_)
    refine cw_seq (fun FK14 K14 => ?_)
    refine cw_region ?_
    refine wl_val (v := .pointer (some ⟨f, 0, none⟩)) (fun ρ e => ex_move (e _ _ rfl)) rfl rfl ?_
    refine wl_val (v := .int .i64 a) (fun ρ e => ex_move (e _ _ rfl)) rfl rfl ?_
    by_cases c15 : kindAt L a = 1
    · skip
      refine wl_call (args := [.pointer (some ⟨f, 0, none⟩), .int .i64 a, .int .i64 1]) in_83 rfl rfl rfl ?_
      refine (ris1 (f := f) (R := R) (c := c) (D := D) (L := L) (vs := vs) (rest := []) O0 (by omega) c15).mono ?_
      rintro _ w16 ⟨rfl, hb17⟩
      have O18 : Own (zone (refE f R c D L vs)) W w16 [.blk f 63 #[.slice R L.length c], .row (.slice R L.length c) 38 3 L.length (gcells L vs), .ro D (Ins D L vs)] := O0.below hb17
      refine ⟨_, rfl, ?_⟩
      refine wl_nil ?_
      refine xw_next K14 ?_
      refine cw_true rfl ?_
      refine cw_seq (fun FK19 K19 => ?_)
      refine cw_region ?_
      refine wl_val (v := .int .i64 b) (fun ρ e => ex_move (e _ _ rfl)) rfl rfl ?_
      refine wl_val (v := .int .i64 b) (fun ρ e => ex_assign (e _ _ rfl)) rfl rfl ?_
      refine wl_nil ?_
      refine xw_next K19 ?_
      refine cw_ret ?_
      refine xw_past (by intro h; cases h) ?_
      refine xw_ret (v := .int .i64 b) (fun T hT => res1 rfl T _ (hT 6 _ rfl)) ?_
      exact RPost.eq (q' := (L, b)) ⟨_, _, _, _, rfl, O18⟩ (by rw [iffG, if_neg c4, if_pos c15])
    · skip
      refine wl_call (args := [.pointer (some ⟨f, 0, none⟩), .int .i64 a, .int .i64 1]) in_83 rfl rfl rfl ?_
      refine (ris0 (f := f) (R := R) (c := c) (D := D) (L := L) (vs := vs) (rest := []) O0 (by omega) c15).mono ?_
      rintro _ w20 ⟨rfl, hb21⟩
      have O22 : Own (zone (refE f R c D L vs)) W w20 [.blk f 63 #[.slice R L.length c], .row (.slice R L.length c) 38 3 L.length (gcells L vs), .ro D (Ins D L vs)] := O0.below hb21
      refine ⟨_, rfl, ?_⟩
      refine wl_nil ?_
      refine xw_next K14 ?_
      refine cw_false rfl ?_
      refine cw_skip ?_
      refine xw_next K13 ?_
      refine cw_seq (fun FK23 K23 => ?_)
      refine cw_seq (fun FK24 K24 => ?_)
      refine cw_region ?_
      refine wl_val (v := .pointer (some ⟨f, 0, none⟩)) (fun ρ e => ex_move (e _ _ rfl)) rfl rfl ?_
      refine wl_val (v := .int .i64 b) (fun ρ e => ex_move (e _ _ rfl)) rfl rfl ?_
      by_cases c25 : kindAt L b = 1
      · skip
        refine wl_call (args := [.pointer (some ⟨f, 0, none⟩), .int .i64 b, .int .i64 1]) in_83 rfl rfl rfl ?_
        refine (ris1 (f := f) (R := R) (c := c) (D := D) (L := L) (vs := vs) (rest := []) O22 (by omega) c25).mono ?_
        rintro _ w26 ⟨rfl, hb27⟩
        have O28 : Own (zone (refE f R c D L vs)) W w26 [.blk f 63 #[.slice R L.length c], .row (.slice R L.length c) 38 3 L.length (gcells L vs), .ro D (Ins D L vs)] := O22.below hb27
        refine ⟨_, rfl, ?_⟩
        refine wl_nil ?_
        refine xw_next K24 ?_
        refine cw_true rfl ?_
        refine cw_seq (fun FK29 K29 => ?_)
        refine cw_region ?_
        refine wl_val (v := .int .i64 a) (fun ρ e => ex_move (e _ _ rfl)) rfl rfl ?_
        refine wl_val (v := .int .i64 a) (fun ρ e => ex_assign (e _ _ rfl)) rfl rfl ?_
        refine wl_nil ?_
        refine xw_next K29 ?_
        refine cw_ret ?_
        refine xw_past (by intro h; cases h) ?_
        refine xw_ret (v := .int .i64 a) (fun T hT => res1 rfl T _ (hT 6 _ rfl)) ?_
        exact RPost.eq (q' := (L, a)) ⟨_, _, _, _, rfl, O28⟩ (by rw [iffG, if_neg c4, if_neg c15, if_pos c25])
      · skip
        refine wl_call (args := [.pointer (some ⟨f, 0, none⟩), .int .i64 b, .int .i64 1]) in_83 rfl rfl rfl ?_
        refine (ris0 (f := f) (R := R) (c := c) (D := D) (L := L) (vs := vs) (rest := []) O22 (by omega) c25).mono ?_
        rintro _ w30 ⟨rfl, hb31⟩
        have O32 : Own (zone (refE f R c D L vs)) W w30 [.blk f 63 #[.slice R L.length c], .row (.slice R L.length c) 38 3 L.length (gcells L vs), .ro D (Ins D L vs)] := O22.below hb31
        refine ⟨_, rfl, ?_⟩
        refine wl_nil ?_
        refine xw_next K24 ?_
        refine cw_false rfl ?_
        refine cw_skip ?_
        refine xw_next K23 ?_
        refine cw_seq (fun FK33 K33 => ?_)
        refine cw_seq (fun FK34 K34 => ?_)
        refine cw_region ?_
        refine wl_val (v := .pointer (some ⟨f, 0, none⟩)) (fun ρ e => ex_move (e _ _ rfl)) rfl rfl ?_
        refine wl_val (v := .int .i64 a) (fun ρ e => ex_move (e _ _ rfl)) rfl rfl ?_
        by_cases c35 : kindAt L a = 0
        · skip
          refine wl_call (args := [.pointer (some ⟨f, 0, none⟩), .int .i64 a, .int .i64 0]) in_83 rfl rfl rfl ?_
          refine (ris1 (f := f) (R := R) (c := c) (D := D) (L := L) (vs := vs) (rest := []) O32 (by omega) c35).mono ?_
          rintro _ w36 ⟨rfl, hb37⟩
          have O38 : Own (zone (refE f R c D L vs)) W w36 [.blk f 63 #[.slice R L.length c], .row (.slice R L.length c) 38 3 L.length (gcells L vs), .ro D (Ins D L vs)] := O32.below hb37
          refine ⟨_, rfl, ?_⟩
          refine wl_nil ?_
          refine xw_next K34 ?_
          refine cw_true rfl ?_
          refine cw_seq (fun FK39 K39 => ?_)
          refine cw_region ?_
          refine wl_val (v := .pointer (some ⟨f, 0, none⟩)) (fun ρ e => ex_move (e _ _ rfl)) rfl rfl ?_
          refine wl_val (v := .int .i64 b) (fun ρ e => ex_move (e _ _ rfl)) rfl rfl ?_
          refine wl_call (args := [.pointer (some ⟨f, 0, none⟩), .int .i64 b]) in_67 rfl rfl rfl ?_
          refine (RPost.use (A := refE f R c D L vs) (rest := []) O38 (rnot_ (Own.hand (A := refE f R c D L vs) (R := []) O38) (by omega) ok okl hL)).mono ?_
          rintro _ w40 ⟨R41, c42, D43, vs44, rfl, O45⟩
          refine ⟨_, rfl, ?_⟩
          refine wl_val (v := .int .i64 ((notG L b).2)) (fun ρ e => ex_assign (e _ _ rfl)) rfl rfl ?_
          refine wl_nil ?_
          refine xw_next K39 ?_
          refine cw_ret ?_
          refine xw_past (by intro h; cases h) ?_
          refine xw_ret (v := .int .i64 ((notG L b).2)) (fun T hT => res1 rfl T _ (hT 6 _ rfl)) ?_
          exact RPost.eq ⟨_, _, _, _, rfl, O45⟩ (by rw [iffG, if_neg c4, if_neg c15, if_neg c25, if_pos c35])
        · skip
          refine wl_call (args := [.pointer (some ⟨f, 0, none⟩), .int .i64 a, .int .i64 0]) in_83 rfl rfl rfl ?_
          refine (ris0 (f := f) (R := R) (c := c) (D := D) (L := L) (vs := vs) (rest := []) O32 (by omega) c35).mono ?_
          rintro _ w46 ⟨rfl, hb47⟩
          have O48 : Own (zone (refE f R c D L vs)) W w46 [.blk f 63 #[.slice R L.length c], .row (.slice R L.length c) 38 3 L.length (gcells L vs), .ro D (Ins D L vs)] := O32.below hb47
          refine ⟨_, rfl, ?_⟩
          refine wl_nil ?_
          refine xw_next K34 ?_
          refine cw_false rfl ?_
          refine cw_skip ?_
          refine xw_next K33 ?_
          refine cw_seq (fun FK49 K49 => ?_)
          refine cw_seq (fun FK50 K50 => ?_)
          refine cw_region ?_
          refine wl_val (v := .pointer (some ⟨f, 0, none⟩)) (fun ρ e => ex_move (e _ _ rfl)) rfl rfl ?_
          refine wl_val (v := .int .i64 b) (fun ρ e => ex_move (e _ _ rfl)) rfl rfl ?_
          by_cases c51 : kindAt L b = 0
          · skip
            refine wl_call (args := [.pointer (some ⟨f, 0, none⟩), .int .i64 b, .int .i64 0]) in_83 rfl rfl rfl ?_
            refine (ris1 (f := f) (R := R) (c := c) (D := D) (L := L) (vs := vs) (rest := []) O48 (by omega) c51).mono ?_
            rintro _ w52 ⟨rfl, hb53⟩
            have O54 : Own (zone (refE f R c D L vs)) W w52 [.blk f 63 #[.slice R L.length c], .row (.slice R L.length c) 38 3 L.length (gcells L vs), .ro D (Ins D L vs)] := O48.below hb53
            refine ⟨_, rfl, ?_⟩
            refine wl_nil ?_
            refine xw_next K50 ?_
            refine cw_true rfl ?_
            refine cw_seq (fun FK55 K55 => ?_)
            refine cw_region ?_
            refine wl_val (v := .pointer (some ⟨f, 0, none⟩)) (fun ρ e => ex_move (e _ _ rfl)) rfl rfl ?_
            refine wl_val (v := .int .i64 a) (fun ρ e => ex_move (e _ _ rfl)) rfl rfl ?_
            refine wl_call (args := [.pointer (some ⟨f, 0, none⟩), .int .i64 a]) in_67 rfl rfl rfl ?_
            refine (RPost.use (A := refE f R c D L vs) (rest := []) O54 (rnot_ (Own.hand (A := refE f R c D L vs) (R := []) O54) (by omega) ok okl hL)).mono ?_
            rintro _ w56 ⟨R57, c58, D59, vs60, rfl, O61⟩
            refine ⟨_, rfl, ?_⟩
            refine wl_val (v := .int .i64 ((notG L a).2)) (fun ρ e => ex_assign (e _ _ rfl)) rfl rfl ?_
            refine wl_nil ?_
            refine xw_next K55 ?_
            refine cw_ret ?_
            refine xw_past (by intro h; cases h) ?_
            refine xw_ret (v := .int .i64 ((notG L a).2)) (fun T hT => res1 rfl T _ (hT 6 _ rfl)) ?_
            exact RPost.eq ⟨_, _, _, _, rfl, O61⟩ (by rw [iffG, if_neg c4, if_neg c15, if_neg c25, if_neg c35, if_pos c51])
          · skip
            refine wl_call (args := [.pointer (some ⟨f, 0, none⟩), .int .i64 b, .int .i64 0]) in_83 rfl rfl rfl ?_
            refine (ris0 (f := f) (R := R) (c := c) (D := D) (L := L) (vs := vs) (rest := []) O48 (by omega) c51).mono ?_
            rintro _ w62 ⟨rfl, hb63⟩
            have O64 : Own (zone (refE f R c D L vs)) W w62 [.blk f 63 #[.slice R L.length c], .row (.slice R L.length c) 38 3 L.length (gcells L vs), .ro D (Ins D L vs)] := O48.below hb63
            refine ⟨_, rfl, ?_⟩
            refine wl_nil ?_
            refine xw_next K50 ?_
            refine cw_false rfl ?_
            refine cw_skip ?_
            refine xw_next K49 ?_
            refine cw_seq (fun FK65 K65 => ?_)
            refine cw_region ?_
            refine wl_val (v := .pointer (some ⟨f, 0, none⟩)) (fun ρ e => ex_move (e _ _ rfl)) rfl rfl ?_
            refine wl_val (v := .int .i64 a) (fun ρ e => ex_move (e _ _ rfl)) rfl rfl ?_
            refine wl_val (v := .int .i64 b) (fun ρ e => ex_move (e _ _ rfl)) rfl rfl ?_
            obtain ⟨g66, w67, r68, O69, hg70, hs71⟩ := own_slice O64 el36 ze3 2 [(0, .int .i64 a), (1, .int .i64 b)] (cs := #[.int .i64 a, .int .i64 b]) (by decide) (by kernel_rfl)
            refine wl_val (v := .slice (some ⟨g66, 0, none⟩) 2 2) (fun ρ e => r68 ρ _ _ _ _ _ _ (e.parts rfl)) rfl rfl ?_
            refine wl_call (args := [.pointer (some ⟨f, 0, none⟩), .int .i64 7, .int .i64 0, .slice (some ⟨g66, 0, none⟩) 2 2]) in_72 rfl rfl rfl ?_
            have O72 : Own (zone (refE f R c D L vs)) W w67 [.ro (fun k => k = g66) (fun w => IntsD (fun k => k = g66) w (.slice (some ⟨g66, 0, none⟩) 2 2) ([a, b])), .blk f 63 #[.slice R L.length c], .row (.slice R L.length c) 38 3 L.length (gcells L vs), .ro D (Ins D L vs)] := Own.blkin (l := [a, b]) O69 rfl rfl (by decide)
            refine (call_rfind (f := f) (R := R) (c := c) (D := D) (L := L) (vs := vs) (D2 := (fun k => k = g66)) (V := .slice (some ⟨g66, 0, none⟩) 2 2) (g := ⟨7, 0, [a, b]⟩) (rest := []) (O72.re [1, 2, 3, 0] rfl : Own (zone (refE f R c D L vs)) W w67 [.blk f 63 #[.slice R L.length c], .row (.slice R L.length c) 38 3 L.length (gcells L vs), .ro D (Ins D L vs), .ro (fun k => k = g66) (fun w => IntsD (fun k => k = g66) w (.slice (some ⟨g66, 0, none⟩) 2 2) ([a, b]))]) ok (Nat.le_of_ble_eq_true rfl) hL).mono ?_
            rintro _ w73 ⟨R74, c75, D76, vs77, rfl, O78⟩
            refine ⟨_, rfl, ?_⟩
            refine wl_val (v := .int .i64 ((findG L ⟨7, 0, [a, b]⟩).2)) (fun ρ e => ex_assign (e _ _ rfl)) rfl rfl ?_
            refine wl_nil ?_
            refine xw_next K65 ?_
            refine cw_ret ?_
            refine xw_ret (v := .int .i64 ((findG L ⟨7, 0, [a, b]⟩).2)) (fun T hT => res1 rfl T _ (hT 6 _ rfl)) ?_
            exact RPost.eq ⟨_, _, _, _, rfl, O78⟩ (by rw [iffG, if_neg c4, if_neg c15, if_neg c25, if_neg c35, if_neg c51])
theorem rchoose_ {a b d : Int} (O0 : Own (zone (refE f R c D L vs)) W W (refE f R c D L vs)) (ha : 0 ≤ a ∧ a < L.length) (hb : 0 ≤ b ∧ b < L.length) (hd : 0 ≤ d ∧ d < L.length) (ok : shortL L) (okl : ∀ i (h : i < L.length), -1000000 ≤ L[i].lit ∧ L[i].lit ≤ 1000000) (hL : L.length ≤ 1000000) :
    Calls Tryd.prog 71 #[.pointer (some ⟨f, 0, none⟩), .int .i64 a, .int .i64 b, .int .i64 d] W (RPost (refE f R c D L vs) W f (chooseG L a b d)) := by
  refine sx_enter (args := [.pointer (some ⟨f, 0, none⟩), .int .i64 a, .int .i64 b, .int .i64 d]) Tryd.func71 rfl rfl (by simp) ?_
  refine cw_seq (fun FK1 K1 => ?_)
  refine cw_region ?_
  refine wl_val (v := .int .i64 0) (fun ρ e => ex_assign (e _ _ rfl)) rfl rfl ?_
  refine wl_nil ?_
  refine xw_next K1 ?_
  refine cw_seq (fun FK2 K2 => ?_)
  refine cw_seq (fun FK3 K3 => ?_)
  refine cw_region ?_
  refine wl_val (v := .pointer (some ⟨f, 0, none⟩)) (fun ρ e => ex_move (e _ _ rfl)) rfl rfl ?_
  refine wl_val (v := .int .i64 a) (fun ρ e => ex_move (e _ _ rfl)) rfl rfl ?_
  by_cases c4 : kindAt L a = 1
  · skip
    refine wl_call (args := [.pointer (some ⟨f, 0, none⟩), .int .i64 a, .int .i64 1]) in_83 rfl rfl rfl ?_
    refine (ris1 (f := f) (R := R) (c := c) (D := D) (L := L) (vs := vs) (rest := []) O0 (by omega) c4).mono ?_
    rintro _ w5 ⟨rfl, hb6⟩
    have O7 : Own (zone (refE f R c D L vs)) W w5 [.blk f 63 #[.slice R L.length c], .row (.slice R L.length c) 38 3 L.length (gcells L vs), .ro D (Ins D L vs)] := O0.below hb6
    refine ⟨_, rfl, ?_⟩
    refine wl_nil ?_
    refine xw_next K3 ?_
    refine cw_true rfl ?_
    refine cw_seq (fun FK8 K8 => ?_)
    refine cw_region ?_
    refine wl_val (v := .int .i64 b) (fun ρ e => ex_move (e _ _ rfl)) rfl rfl ?_
    refine wl_val (v := .int .i64 b) (fun ρ e => ex_assign (e _ _ rfl)) rfl rfl ?_
    refine wl_nil ?_
    refine xw_next K8 ?_
    refine cw_ret ?_
    refine xw_past (by intro h; cases h) ?_
    refine xw_ret (v := .int .i64 b) (fun T hT => res1 rfl T _ (hT 8 _ rfl)) ?_
    exact RPost.eq (q' := (L, b)) ⟨_, _, _, _, rfl, O7⟩ (by rw [chooseG, if_pos c4])
  · skip
    refine wl_call (args := [.pointer (some ⟨f, 0, none⟩), .int .i64 a, .int .i64 1]) in_83 rfl rfl rfl ?_
    refine (ris0 (f := f) (R := R) (c := c) (D := D) (L := L) (vs := vs) (rest := []) O0 (by omega) c4).mono ?_
    rintro _ w9 ⟨rfl, hb10⟩
    have O11 : Own (zone (refE f R c D L vs)) W w9 [.blk f 63 #[.slice R L.length c], .row (.slice R L.length c) 38 3 L.length (gcells L vs), .ro D (Ins D L vs)] := O0.below hb10
    refine ⟨_, rfl, ?_⟩
    refine wl_nil ?_
    refine xw_next K3 ?_
    refine cw_false rfl ?_
    refine cw_skip ?_
    refine xw_next K2 ?_
    refine cw_seq (fun FK12 K12 => ?_)
    refine cw_seq (fun FK13 K13 => ?_)
    refine cw_region ?_
    refine wl_val (v := .pointer (some ⟨f, 0, none⟩)) (fun ρ e => ex_move (e _ _ rfl)) rfl rfl ?_
    refine wl_val (v := .int .i64 a) (fun ρ e => ex_move (e _ _ rfl)) rfl rfl ?_
    by_cases c14 : kindAt L a = 0
    · skip
      refine wl_call (args := [.pointer (some ⟨f, 0, none⟩), .int .i64 a, .int .i64 0]) in_83 rfl rfl rfl ?_
      refine (ris1 (f := f) (R := R) (c := c) (D := D) (L := L) (vs := vs) (rest := []) O11 (by omega) c14).mono ?_
      rintro _ w15 ⟨rfl, hb16⟩
      have O17 : Own (zone (refE f R c D L vs)) W w15 [.blk f 63 #[.slice R L.length c], .row (.slice R L.length c) 38 3 L.length (gcells L vs), .ro D (Ins D L vs)] := O11.below hb16
      refine ⟨_, rfl, ?_⟩
      refine wl_nil ?_
      refine xw_next K13 ?_
      refine cw_true rfl ?_
      refine cw_seq (fun FK18 K18 => ?_)
      refine cw_region ?_
      refine wl_val (v := .int .i64 d) (fun ρ e => ex_move (e _ _ rfl)) rfl rfl ?_
      refine wl_val (v := .int .i64 d) (fun ρ e => ex_assign (e _ _ rfl)) rfl rfl ?_
      refine wl_nil ?_
      refine xw_next K18 ?_
      refine cw_ret ?_
      refine xw_past (by intro h; cases h) ?_
      refine xw_ret (v := .int .i64 d) (fun T hT => res1 rfl T _ (hT 8 _ rfl)) ?_
      exact RPost.eq (q' := (L, d)) ⟨_, _, _, _, rfl, O17⟩ (by rw [chooseG, if_neg c4, if_pos (.inl c14)])
    · skip
      refine wl_call (args := [.pointer (some ⟨f, 0, none⟩), .int .i64 a, .int .i64 0]) in_83 rfl rfl rfl ?_
      refine (ris0 (f := f) (R := R) (c := c) (D := D) (L := L) (vs := vs) (rest := []) O11 (by omega) c14).mono ?_
      rintro _ w19 ⟨rfl, hb20⟩
      have O21 : Own (zone (refE f R c D L vs)) W w19 [.blk f 63 #[.slice R L.length c], .row (.slice R L.length c) 38 3 L.length (gcells L vs), .ro D (Ins D L vs)] := O11.below hb20
      refine ⟨_, rfl, ?_⟩
      refine wl_nil ?_
      refine xw_next K13 ?_
      refine cw_false rfl ?_
      refine cw_skip ?_
      refine xw_next K12 ?_
      refine cw_seq (fun FK22 K22 => ?_)
      refine cw_seq (fun FK23 K23 => ?_)
      refine cw_region ?_
      refine wl_val (v := .int .i64 b) (fun ρ e => ex_move (e _ _ rfl)) rfl rfl ?_
      refine wl_val (v := .int .i64 d) (fun ρ e => ex_move (e _ _ rfl)) rfl rfl ?_
      by_cases c24 : b = d
      · skip
        refine wl_val (v := .bool true) (fun ρ e => ex_cmp (u := b) (v := d) (e _ _ rfl) (e _ _ rfl) (eql1 (by omega))) rfl rfl ?_
        refine wl_nil ?_
        refine xw_next K23 ?_
        refine cw_true rfl ?_
        refine cw_seq (fun FK25 K25 => ?_)
        refine cw_region ?_
        refine wl_val (v := .int .i64 b) (fun ρ e => ex_move (e _ _ rfl)) rfl rfl ?_
        refine wl_val (v := .int .i64 b) (fun ρ e => ex_assign (e _ _ rfl)) rfl rfl ?_
        refine wl_nil ?_
        refine xw_next K25 ?_
        refine cw_ret ?_
        refine xw_past (by intro h; cases h) ?_
        refine xw_ret (v := .int .i64 b) (fun T hT => res1 rfl T _ (hT 8 _ rfl)) ?_
        exact RPost.eq (q' := (L, b)) ⟨_, _, _, _, rfl, O21⟩ (by rw [chooseG, if_neg c4, if_pos (.inr c24), c24])
      · skip
        refine wl_val (v := .bool false) (fun ρ e => ex_cmp (u := b) (v := d) (e _ _ rfl) (e _ _ rfl) (eql0 (by omega))) rfl rfl ?_
        refine wl_nil ?_
        refine xw_next K23 ?_
        refine cw_false rfl ?_
        refine cw_skip ?_
        refine xw_next K22 ?_
        refine cw_seq (fun FK26 K26 => ?_)
        refine cw_seq (fun FK27 K27 => ?_)
        refine cw_region ?_
        refine wl_val (v := .pointer (some ⟨f, 0, none⟩)) (fun ρ e => ex_move (e _ _ rfl)) rfl rfl ?_
        refine wl_val (v := .int .i64 b) (fun ρ e => ex_move (e _ _ rfl)) rfl rfl ?_
        by_cases c28 : kindAt L b = 1
        · skip
          refine wl_call (args := [.pointer (some ⟨f, 0, none⟩), .int .i64 b, .int .i64 1]) in_83 rfl rfl rfl ?_
          refine (ris1 (f := f) (R := R) (c := c) (D := D) (L := L) (vs := vs) (rest := []) O21 (by omega) c28).mono ?_
          rintro _ w29 ⟨rfl, hb30⟩
          have O31 : Own (zone (refE f R c D L vs)) W w29 [.blk f 63 #[.slice R L.length c], .row (.slice R L.length c) 38 3 L.length (gcells L vs), .ro D (Ins D L vs)] := O21.below hb30
          refine ⟨_, rfl, ?_⟩
          refine wl_val (v := .bool true) (fun ρ e => ex_move (e _ _ rfl)) rfl rfl ?_
          refine wl_val (v := .pointer (some ⟨f, 0, none⟩)) (fun ρ e => ex_move (e _ _ rfl)) rfl rfl ?_
          refine wl_val (v := .int .i64 d) (fun ρ e => ex_move (e _ _ rfl)) rfl rfl ?_
          by_cases c32 : kindAt L d = 0
          · skip
            refine wl_call (args := [.pointer (some ⟨f, 0, none⟩), .int .i64 d, .int .i64 0]) in_83 rfl rfl rfl ?_
            refine (ris1 (f := f) (R := R) (c := c) (D := D) (L := L) (vs := vs) (rest := []) O31 (by omega) c32).mono ?_
            rintro _ w33 ⟨rfl, hb34⟩
            have O35 : Own (zone (refE f R c D L vs)) W w33 [.blk f 63 #[.slice R L.length c], .row (.slice R L.length c) 38 3 L.length (gcells L vs), .ro D (Ins D L vs)] := O31.below hb34
            refine ⟨_, rfl, ?_⟩
            refine wl_val (v := .bool true) (fun ρ e => ex_pick1 (e _ _ rfl) (e _ _ rfl)) rfl rfl ?_
            refine wl_nil ?_
            refine xw_next K27 ?_
            refine cw_true rfl ?_
            refine cw_seq (fun FK36 K36 => ?_)
            refine cw_region ?_
            refine wl_val (v := .int .i64 a) (fun ρ e => ex_move (e _ _ rfl)) rfl rfl ?_
            refine wl_val (v := .int .i64 a) (fun ρ e => ex_assign (e _ _ rfl)) rfl rfl ?_
            refine wl_nil ?_
            refine xw_next K36 ?_
            refine cw_ret ?_
            refine xw_past (by intro h; cases h) ?_
            refine xw_ret (v := .int .i64 a) (fun T hT => res1 rfl T _ (hT 8 _ rfl)) ?_
            exact RPost.eq (q' := (L, a)) ⟨_, _, _, _, rfl, O35⟩ (by rw [chooseG, if_neg c4, if_neg (fun h => h.elim c14 c24), if_pos ⟨c28, c32⟩])
          · skip
            refine wl_call (args := [.pointer (some ⟨f, 0, none⟩), .int .i64 d, .int .i64 0]) in_83 rfl rfl rfl ?_
            refine (ris0 (f := f) (R := R) (c := c) (D := D) (L := L) (vs := vs) (rest := []) O31 (by omega) c32).mono ?_
            rintro _ w37 ⟨rfl, hb38⟩
            have O39 : Own (zone (refE f R c D L vs)) W w37 [.blk f 63 #[.slice R L.length c], .row (.slice R L.length c) 38 3 L.length (gcells L vs), .ro D (Ins D L vs)] := O31.below hb38
            refine ⟨_, rfl, ?_⟩
            refine wl_val (v := .bool false) (fun ρ e => ex_pick1 (e _ _ rfl) (e _ _ rfl)) rfl rfl ?_
            refine wl_nil ?_
            refine xw_next K27 ?_
            refine cw_false rfl ?_
            refine cw_skip ?_
            refine xw_next K26 ?_
            refine cw_seq (fun FK40 K40 => ?_)
            refine cw_seq (fun FK41 K41 => ?_)
            refine cw_region ?_
            refine wl_val (v := .pointer (some ⟨f, 0, none⟩)) (fun ρ e => ex_move (e _ _ rfl)) rfl rfl ?_
            refine wl_val (v := .int .i64 b) (fun ρ e => ex_move (e _ _ rfl)) rfl rfl ?_
            by_cases c42 : kindAt L b = 0
            · skip
              refine wl_call (args := [.pointer (some ⟨f, 0, none⟩), .int .i64 b, .int .i64 0]) in_83 rfl rfl rfl ?_
              refine (ris1 (f := f) (R := R) (c := c) (D := D) (L := L) (vs := vs) (rest := []) O39 (by omega) c42).mono ?_
              rintro _ w43 ⟨rfl, hb44⟩
              have O45 : Own (zone (refE f R c D L vs)) W w43 [.blk f 63 #[.slice R L.length c], .row (.slice R L.length c) 38 3 L.length (gcells L vs), .ro D (Ins D L vs)] := O39.below hb44
              refine ⟨_, rfl, ?_⟩
              refine wl_val (v := .bool true) (fun ρ e => ex_move (e _ _ rfl)) rfl rfl ?_
              refine wl_val (v := .pointer (some ⟨f, 0, none⟩)) (fun ρ e => ex_move (e _ _ rfl)) rfl rfl ?_
              refine wl_val (v := .int .i64 d) (fun ρ e => ex_move (e _ _ rfl)) rfl rfl ?_
              by_cases c46 : kindAt L d = 1
              · skip
                refine wl_call (args := [.pointer (some ⟨f, 0, none⟩), .int .i64 d, .int .i64 1]) in_83 rfl rfl rfl ?_
                refine (ris1 (f := f) (R := R) (c := c) (D := D) (L := L) (vs := vs) (rest := []) O45 (by omega) c46).mono ?_
                rintro _ w47 ⟨rfl, hb48⟩
                have O49 : Own (zone (refE f R c D L vs)) W w47 [.blk f 63 #[.slice R L.length c], .row (.slice R L.length c) 38 3 L.length (gcells L vs), .ro D (Ins D L vs)] := O45.below hb48
                refine ⟨_, rfl, ?_⟩
                refine wl_val (v := .bool true) (fun ρ e => ex_pick1 (e _ _ rfl) (e _ _ rfl)) rfl rfl ?_
                refine wl_nil ?_
                refine xw_next K41 ?_
                refine cw_true rfl ?_
                refine cw_seq (fun FK50 K50 => ?_)
                refine cw_region ?_
                refine wl_val (v := .pointer (some ⟨f, 0, none⟩)) (fun ρ e => ex_move (e _ _ rfl)) rfl rfl ?_
                refine wl_val (v := .int .i64 a) (fun ρ e => ex_move (e _ _ rfl)) rfl rfl ?_
                refine wl_call (args := [.pointer (some ⟨f, 0, none⟩), .int .i64 a]) in_67 rfl rfl rfl ?_
                refine (RPost.use (A := refE f R c D L vs) (rest := []) O49 (rnot_ (Own.hand (A := refE f R c D L vs) (R := []) O49) (by omega) ok okl hL)).mono ?_
                rintro _ w51 ⟨R52, c53, D54, vs55, rfl, O56⟩
                refine ⟨_, rfl, ?_⟩
                refine wl_val (v := .int .i64 ((notG L a).2)) (fun ρ e => ex_assign (e _ _ rfl)) rfl rfl ?_
                refine wl_nil ?_
                refine xw_next K50 ?_
                refine cw_ret ?_
                refine xw_past (by intro h; cases h) ?_
                refine xw_ret (v := .int .i64 ((notG L a).2)) (fun T hT => res1 rfl T _ (hT 8 _ rfl)) ?_
                exact RPost.eq ⟨_, _, _, _, rfl, O56⟩ (by rw [chooseG, if_neg c4, if_neg (fun h => h.elim c14 c24), if_neg (fun h => c32 h.2), if_pos ⟨c42, c46⟩])
              · skip
                refine wl_call (args := [.pointer (some ⟨f, 0, none⟩), .int .i64 d, .int .i64 1]) in_83 rfl rfl rfl ?_
                refine (ris0 (f := f) (R := R) (c := c) (D := D) (L := L) (vs := vs) (rest := []) O45 (by omega) c46).mono ?_
                rintro _ w57 ⟨rfl, hb58⟩
                have O59 : Own (zone (refE f R c D L vs)) W w57 [.blk f 63 #[.slice R L.length c], .row (.slice R L.length c) 38 3 L.length (gcells L vs), .ro D (Ins D L vs)] := O45.below hb58
                refine ⟨_, rfl, ?_⟩
                refine wl_val (v := .bool false) (fun ρ e => ex_pick1 (e _ _ rfl) (e _ _ rfl)) rfl rfl ?_
                refine wl_nil ?_
                refine xw_next K41 ?_
                refine cw_false rfl ?_
                refine cw_skip ?_
                refine xw_next K40 ?_
                refine cw_seq (fun FK60 K60 => ?_)
                refine cw_region ?_
                refine wl_val (v := .pointer (some ⟨f, 0, none⟩)) (fun ρ e => ex_move (e _ _ rfl)) rfl rfl ?_
                refine wl_val (v := .int .i64 a) (fun ρ e => ex_move (e _ _ rfl)) rfl rfl ?_
                refine wl_val (v := .int .i64 b) (fun ρ e => ex_move (e _ _ rfl)) rfl rfl ?_
                refine wl_val (v := .int .i64 d) (fun ρ e => ex_move (e _ _ rfl)) rfl rfl ?_
                obtain ⟨g61, w62, r63, O64, hg65, hs66⟩ := own_slice O59 el36 ze3 3 [(0, .int .i64 a), (1, .int .i64 b), (2, .int .i64 d)] (cs := #[.int .i64 a, .int .i64 b, .int .i64 d]) (by decide) (by kernel_rfl)
                refine wl_val (v := .slice (some ⟨g61, 0, none⟩) 3 3) (fun ρ e => r63 ρ _ _ _ _ _ _ (e.parts rfl)) rfl rfl ?_
                refine wl_call (args := [.pointer (some ⟨f, 0, none⟩), .int .i64 8, .int .i64 0, .slice (some ⟨g61, 0, none⟩) 3 3]) in_72 rfl rfl rfl ?_
                have O67 : Own (zone (refE f R c D L vs)) W w62 [.ro (fun k => k = g61) (fun w => IntsD (fun k => k = g61) w (.slice (some ⟨g61, 0, none⟩) 3 3) ([a, b, d])), .blk f 63 #[.slice R L.length c], .row (.slice R L.length c) 38 3 L.length (gcells L vs), .ro D (Ins D L vs)] := Own.blkin (l := [a, b, d]) O64 rfl rfl (by decide)
                refine (call_rfind (f := f) (R := R) (c := c) (D := D) (L := L) (vs := vs) (D2 := (fun k => k = g61)) (V := .slice (some ⟨g61, 0, none⟩) 3 3) (g := ⟨8, 0, [a, b, d]⟩) (rest := []) (O67.re [1, 2, 3, 0] rfl : Own (zone (refE f R c D L vs)) W w62 [.blk f 63 #[.slice R L.length c], .row (.slice R L.length c) 38 3 L.length (gcells L vs), .ro D (Ins D L vs), .ro (fun k => k = g61) (fun w => IntsD (fun k => k = g61) w (.slice (some ⟨g61, 0, none⟩) 3 3) ([a, b, d]))]) ok (Nat.le_of_ble_eq_true rfl) hL).mono ?_
                rintro _ w68 ⟨R69, c70, D71, vs72, rfl, O73⟩
                refine ⟨_, rfl, ?_⟩
                refine wl_val (v := .int .i64 ((findG L ⟨8, 0, [a, b, d]⟩).2)) (fun ρ e => ex_assign (e _ _ rfl)) rfl rfl ?_
                refine wl_nil ?_
                refine xw_next K60 ?_
                refine cw_ret ?_
                refine xw_ret (v := .int .i64 ((findG L ⟨8, 0, [a, b, d]⟩).2)) (fun T hT => res1 rfl T _ (hT 8 _ rfl)) ?_
                exact RPost.eq ⟨_, _, _, _, rfl, O73⟩ (by rw [chooseG, if_neg c4, if_neg (fun h => h.elim c14 c24), if_neg (fun h => c32 h.2), if_neg (fun h => c46 h.2)])
            · skip
              refine wl_call (args := [.pointer (some ⟨f, 0, none⟩), .int .i64 b, .int .i64 0]) in_83 rfl rfl rfl ?_
              refine (ris0 (f := f) (R := R) (c := c) (D := D) (L := L) (vs := vs) (rest := []) O39 (by omega) c42).mono ?_
              rintro _ w74 ⟨rfl, hb75⟩
              have O76 : Own (zone (refE f R c D L vs)) W w74 [.blk f 63 #[.slice R L.length c], .row (.slice R L.length c) 38 3 L.length (gcells L vs), .ro D (Ins D L vs)] := O39.below hb75
              refine ⟨_, rfl, ?_⟩
              refine wl_val (v := .bool false) (fun ρ e => ex_move (e _ _ rfl)) rfl rfl ?_
              refine wl_skip rfl rfl ?_
              refine wl_skip rfl rfl ?_
              refine wl_skip rfl rfl ?_
              refine wl_val (v := .bool false) (fun ρ e => ex_pick0 (e _ _ rfl) (e _ _ rfl)) rfl rfl ?_
              refine wl_nil ?_
              refine xw_next K41 ?_
              refine cw_false rfl ?_
              refine cw_skip ?_
              refine xw_next K40 ?_
              refine cw_seq (fun FK77 K77 => ?_)
              refine cw_region ?_
              refine wl_val (v := .pointer (some ⟨f, 0, none⟩)) (fun ρ e => ex_move (e _ _ rfl)) rfl rfl ?_
              refine wl_val (v := .int .i64 a) (fun ρ e => ex_move (e _ _ rfl)) rfl rfl ?_
              refine wl_val (v := .int .i64 b) (fun ρ e => ex_move (e _ _ rfl)) rfl rfl ?_
              refine wl_val (v := .int .i64 d) (fun ρ e => ex_move (e _ _ rfl)) rfl rfl ?_
              obtain ⟨g78, w79, r80, O81, hg82, hs83⟩ := own_slice O76 el36 ze3 3 [(0, .int .i64 a), (1, .int .i64 b), (2, .int .i64 d)] (cs := #[.int .i64 a, .int .i64 b, .int .i64 d]) (by decide) (by kernel_rfl)
              refine wl_val (v := .slice (some ⟨g78, 0, none⟩) 3 3) (fun ρ e => r80 ρ _ _ _ _ _ _ (e.parts rfl)) rfl rfl ?_
              refine wl_call (args := [.pointer (some ⟨f, 0, none⟩), .int .i64 8, .int .i64 0, .slice (some ⟨g78, 0, none⟩) 3 3]) in_72 rfl rfl rfl ?_
              have O84 : Own (zone (refE f R c D L vs)) W w79 [.ro (fun k => k = g78) (fun w => IntsD (fun k => k = g78) w (.slice (some ⟨g78, 0, none⟩) 3 3) ([a, b, d])), .blk f 63 #[.slice R L.length c], .row (.slice R L.length c) 38 3 L.length (gcells L vs), .ro D (Ins D L vs)] := Own.blkin (l := [a, b, d]) O81 rfl rfl (by decide)
              refine (call_rfind (f := f) (R := R) (c := c) (D := D) (L := L) (vs := vs) (D2 := (fun k => k = g78)) (V := .slice (some ⟨g78, 0, none⟩) 3 3) (g := ⟨8, 0, [a, b, d]⟩) (rest := []) (O84.re [1, 2, 3, 0] rfl : Own (zone (refE f R c D L vs)) W w79 [.blk f 63 #[.slice R L.length c], .row (.slice R L.length c) 38 3 L.length (gcells L vs), .ro D (Ins D L vs), .ro (fun k => k = g78) (fun w => IntsD (fun k => k = g78) w (.slice (some ⟨g78, 0, none⟩) 3 3) ([a, b, d]))]) ok (Nat.le_of_ble_eq_true rfl) hL).mono ?_
              rintro _ w85 ⟨R86, c87, D88, vs89, rfl, O90⟩
              refine ⟨_, rfl, ?_⟩
              refine wl_val (v := .int .i64 ((findG L ⟨8, 0, [a, b, d]⟩).2)) (fun ρ e => ex_assign (e _ _ rfl)) rfl rfl ?_
              refine wl_nil ?_
              refine xw_next K77 ?_
              refine cw_ret ?_
              refine xw_ret (v := .int .i64 ((findG L ⟨8, 0, [a, b, d]⟩).2)) (fun T hT => res1 rfl T _ (hT 8 _ rfl)) ?_
              exact RPost.eq ⟨_, _, _, _, rfl, O90⟩ (by rw [chooseG, if_neg c4, if_neg (fun h => h.elim c14 c24), if_neg (fun h => c32 h.2), if_neg (fun h => c42 h.1)])
        · skip
          refine wl_call (args := [.pointer (some ⟨f, 0, none⟩), .int .i64 b, .int .i64 1]) in_83 rfl rfl rfl ?_
          refine (ris0 (f := f) (R := R) (c := c) (D := D) (L := L) (vs := vs) (rest := []) O21 (by omega) c28).mono ?_
          rintro _ w91 ⟨rfl, hb92⟩
          have O93 : Own (zone (refE f R c D L vs)) W w91 [.blk f 63 #[.slice R L.length c], .row (.slice R L.length c) 38 3 L.length (gcells L vs), .ro D (Ins D L vs)] := O21.below hb92
          refine ⟨_, rfl, ?_⟩
          refine wl_val (v := .bool false) (fun ρ e => ex_move (e _ _ rfl)) rfl rfl ?_
          refine wl_skip rfl rfl ?_
          refine wl_skip rfl rfl ?_
          refine wl_skip rfl rfl ?_
          refine wl_val (v := .bool false) (fun ρ e => ex_pick0 (e _ _ rfl) (e _ _ rfl)) rfl rfl ?_
          refine wl_nil ?_
          refine xw_next K27 ?_
          refine cw_false rfl ?_
          refine cw_skip ?_
          refine xw_next K26 ?_
          refine cw_seq (fun FK94 K94 => ?_)
          refine cw_seq (fun FK95 K95 => ?_)
          refine cw_region ?_
          refine wl_val (v := .pointer (some ⟨f, 0, none⟩)) (fun ρ e => ex_move (e _ _ rfl)) rfl rfl ?_
          refine wl_val (v := .int .i64 b) (fun ρ e => ex_move (e _ _ rfl)) rfl rfl ?_
          by_cases c96 : kindAt L b = 0
          · skip
            refine wl_call (args := [.pointer (some ⟨f, 0, none⟩), .int .i64 b, .int .i64 0]) in_83 rfl rfl rfl ?_
            refine (ris1 (f := f) (R := R) (c := c) (D := D) (L := L) (vs := vs) (rest := []) O93 (by omega) c96).mono ?_
            rintro _ w97 ⟨rfl, hb98⟩
            have O99 : Own (zone (refE f R c D L vs)) W w97 [.blk f 63 #[.slice R L.length c], .row (.slice R L.length c) 38 3 L.length (gcells L vs), .ro D (Ins D L vs)] := O93.below hb98
            refine ⟨_, rfl, ?_⟩
            refine wl_val (v := .bool true) (fun ρ e => ex_move (e _ _ rfl)) rfl rfl ?_
            refine wl_val (v := .pointer (some ⟨f, 0, none⟩)) (fun ρ e => ex_move (e _ _ rfl)) rfl rfl ?_
            refine wl_val (v := .int .i64 d) (fun ρ e => ex_move (e _ _ rfl)) rfl rfl ?_
            by_cases c100 : kindAt L d = 1
            · skip
              refine wl_call (args := [.pointer (some ⟨f, 0, none⟩), .int .i64 d, .int .i64 1]) in_83 rfl rfl rfl ?_
              refine (ris1 (f := f) (R := R) (c := c) (D := D) (L := L) (vs := vs) (rest := []) O99 (by omega) c100).mono ?_
              rintro _ w101 ⟨rfl, hb102⟩
              have O103 : Own (zone (refE f R c D L vs)) W w101 [.blk f 63 #[.slice R L.length c], .row (.slice R L.length c) 38 3 L.length (gcells L vs), .ro D (Ins D L vs)] := O99.below hb102
              refine ⟨_, rfl, ?_⟩
              refine wl_val (v := .bool true) (fun ρ e => ex_pick1 (e _ _ rfl) (e _ _ rfl)) rfl rfl ?_
              refine wl_nil ?_
              refine xw_next K95 ?_
              refine cw_true rfl ?_
              refine cw_seq (fun FK104 K104 => ?_)
              refine cw_region ?_
              refine wl_val (v := .pointer (some ⟨f, 0, none⟩)) (fun ρ e => ex_move (e _ _ rfl)) rfl rfl ?_
              refine wl_val (v := .int .i64 a) (fun ρ e => ex_move (e _ _ rfl)) rfl rfl ?_
              refine wl_call (args := [.pointer (some ⟨f, 0, none⟩), .int .i64 a]) in_67 rfl rfl rfl ?_
              refine (RPost.use (A := refE f R c D L vs) (rest := []) O103 (rnot_ (Own.hand (A := refE f R c D L vs) (R := []) O103) (by omega) ok okl hL)).mono ?_
              rintro _ w105 ⟨R106, c107, D108, vs109, rfl, O110⟩
              refine ⟨_, rfl, ?_⟩
              refine wl_val (v := .int .i64 ((notG L a).2)) (fun ρ e => ex_assign (e _ _ rfl)) rfl rfl ?_
              refine wl_nil ?_
              refine xw_next K104 ?_
              refine cw_ret ?_
              refine xw_past (by intro h; cases h) ?_
              refine xw_ret (v := .int .i64 ((notG L a).2)) (fun T hT => res1 rfl T _ (hT 8 _ rfl)) ?_
              exact RPost.eq ⟨_, _, _, _, rfl, O110⟩ (by rw [chooseG, if_neg c4, if_neg (fun h => h.elim c14 c24), if_neg (fun h => c28 h.1), if_pos ⟨c96, c100⟩])
            · skip
              refine wl_call (args := [.pointer (some ⟨f, 0, none⟩), .int .i64 d, .int .i64 1]) in_83 rfl rfl rfl ?_
              refine (ris0 (f := f) (R := R) (c := c) (D := D) (L := L) (vs := vs) (rest := []) O99 (by omega) c100).mono ?_
              rintro _ w111 ⟨rfl, hb112⟩
              have O113 : Own (zone (refE f R c D L vs)) W w111 [.blk f 63 #[.slice R L.length c], .row (.slice R L.length c) 38 3 L.length (gcells L vs), .ro D (Ins D L vs)] := O99.below hb112
              refine ⟨_, rfl, ?_⟩
              refine wl_val (v := .bool false) (fun ρ e => ex_pick1 (e _ _ rfl) (e _ _ rfl)) rfl rfl ?_
              refine wl_nil ?_
              refine xw_next K95 ?_
              refine cw_false rfl ?_
              refine cw_skip ?_
              refine xw_next K94 ?_
              refine cw_seq (fun FK114 K114 => ?_)
              refine cw_region ?_
              refine wl_val (v := .pointer (some ⟨f, 0, none⟩)) (fun ρ e => ex_move (e _ _ rfl)) rfl rfl ?_
              refine wl_val (v := .int .i64 a) (fun ρ e => ex_move (e _ _ rfl)) rfl rfl ?_
              refine wl_val (v := .int .i64 b) (fun ρ e => ex_move (e _ _ rfl)) rfl rfl ?_
              refine wl_val (v := .int .i64 d) (fun ρ e => ex_move (e _ _ rfl)) rfl rfl ?_
              obtain ⟨g115, w116, r117, O118, hg119, hs120⟩ := own_slice O113 el36 ze3 3 [(0, .int .i64 a), (1, .int .i64 b), (2, .int .i64 d)] (cs := #[.int .i64 a, .int .i64 b, .int .i64 d]) (by decide) (by kernel_rfl)
              refine wl_val (v := .slice (some ⟨g115, 0, none⟩) 3 3) (fun ρ e => r117 ρ _ _ _ _ _ _ (e.parts rfl)) rfl rfl ?_
              refine wl_call (args := [.pointer (some ⟨f, 0, none⟩), .int .i64 8, .int .i64 0, .slice (some ⟨g115, 0, none⟩) 3 3]) in_72 rfl rfl rfl ?_
              have O121 : Own (zone (refE f R c D L vs)) W w116 [.ro (fun k => k = g115) (fun w => IntsD (fun k => k = g115) w (.slice (some ⟨g115, 0, none⟩) 3 3) ([a, b, d])), .blk f 63 #[.slice R L.length c], .row (.slice R L.length c) 38 3 L.length (gcells L vs), .ro D (Ins D L vs)] := Own.blkin (l := [a, b, d]) O118 rfl rfl (by decide)
              refine (call_rfind (f := f) (R := R) (c := c) (D := D) (L := L) (vs := vs) (D2 := (fun k => k = g115)) (V := .slice (some ⟨g115, 0, none⟩) 3 3) (g := ⟨8, 0, [a, b, d]⟩) (rest := []) (O121.re [1, 2, 3, 0] rfl : Own (zone (refE f R c D L vs)) W w116 [.blk f 63 #[.slice R L.length c], .row (.slice R L.length c) 38 3 L.length (gcells L vs), .ro D (Ins D L vs), .ro (fun k => k = g115) (fun w => IntsD (fun k => k = g115) w (.slice (some ⟨g115, 0, none⟩) 3 3) ([a, b, d]))]) ok (Nat.le_of_ble_eq_true rfl) hL).mono ?_
              rintro _ w122 ⟨R123, c124, D125, vs126, rfl, O127⟩
              refine ⟨_, rfl, ?_⟩
              refine wl_val (v := .int .i64 ((findG L ⟨8, 0, [a, b, d]⟩).2)) (fun ρ e => ex_assign (e _ _ rfl)) rfl rfl ?_
              refine wl_nil ?_
              refine xw_next K114 ?_
              refine cw_ret ?_
              refine xw_ret (v := .int .i64 ((findG L ⟨8, 0, [a, b, d]⟩).2)) (fun T hT => res1 rfl T _ (hT 8 _ rfl)) ?_
              exact RPost.eq ⟨_, _, _, _, rfl, O127⟩ (by rw [chooseG, if_neg c4, if_neg (fun h => h.elim c14 c24), if_neg (fun h => c28 h.1), if_neg (fun h => c100 h.2)])
          · skip
            refine wl_call (args := [.pointer (some ⟨f, 0, none⟩), .int .i64 b, .int .i64 0]) in_83 rfl rfl rfl ?_
            refine (ris0 (f := f) (R := R) (c := c) (D := D) (L := L) (vs := vs) (rest := []) O93 (by omega) c96).mono ?_
            rintro _ w128 ⟨rfl, hb129⟩
            have O130 : Own (zone (refE f R c D L vs)) W w128 [.blk f 63 #[.slice R L.length c], .row (.slice R L.length c) 38 3 L.length (gcells L vs), .ro D (Ins D L vs)] := O93.below hb129
            refine ⟨_, rfl, ?_⟩
            refine wl_val (v := .bool false) (fun ρ e => ex_move (e _ _ rfl)) rfl rfl ?_
            refine wl_skip rfl rfl ?_
            refine wl_skip rfl rfl ?_
            refine wl_skip rfl rfl ?_
            refine wl_val (v := .bool false) (fun ρ e => ex_pick0 (e _ _ rfl) (e _ _ rfl)) rfl rfl ?_
            refine wl_nil ?_
            refine xw_next K95 ?_
            refine cw_false rfl ?_
            refine cw_skip ?_
            refine xw_next K94 ?_
            refine cw_seq (fun FK131 K131 => ?_)
            refine cw_region ?_
            refine wl_val (v := .pointer (some ⟨f, 0, none⟩)) (fun ρ e => ex_move (e _ _ rfl)) rfl rfl ?_
            refine wl_val (v := .int .i64 a) (fun ρ e => ex_move (e _ _ rfl)) rfl rfl ?_
            refine wl_val (v := .int .i64 b) (fun ρ e => ex_move (e _ _ rfl)) rfl rfl ?_
            refine wl_val (v := .int .i64 d) (fun ρ e => ex_move (e _ _ rfl)) rfl rfl ?_
            obtain ⟨g132, w133, r134, O135, hg136, hs137⟩ := own_slice O130 el36 ze3 3 [(0, .int .i64 a), (1, .int .i64 b), (2, .int .i64 d)] (cs := #[.int .i64 a, .int .i64 b, .int .i64 d]) (by decide) (by kernel_rfl)
            refine wl_val (v := .slice (some ⟨g132, 0, none⟩) 3 3) (fun ρ e => r134 ρ _ _ _ _ _ _ (e.parts rfl)) rfl rfl ?_
            refine wl_call (args := [.pointer (some ⟨f, 0, none⟩), .int .i64 8, .int .i64 0, .slice (some ⟨g132, 0, none⟩) 3 3]) in_72 rfl rfl rfl ?_
            have O138 : Own (zone (refE f R c D L vs)) W w133 [.ro (fun k => k = g132) (fun w => IntsD (fun k => k = g132) w (.slice (some ⟨g132, 0, none⟩) 3 3) ([a, b, d])), .blk f 63 #[.slice R L.length c], .row (.slice R L.length c) 38 3 L.length (gcells L vs), .ro D (Ins D L vs)] := Own.blkin (l := [a, b, d]) O135 rfl rfl (by decide)
            refine (call_rfind (f := f) (R := R) (c := c) (D := D) (L := L) (vs := vs) (D2 := (fun k => k = g132)) (V := .slice (some ⟨g132, 0, none⟩) 3 3) (g := ⟨8, 0, [a, b, d]⟩) (rest := []) (O138.re [1, 2, 3, 0] rfl : Own (zone (refE f R c D L vs)) W w133 [.blk f 63 #[.slice R L.length c], .row (.slice R L.length c) 38 3 L.length (gcells L vs), .ro D (Ins D L vs), .ro (fun k => k = g132) (fun w => IntsD (fun k => k = g132) w (.slice (some ⟨g132, 0, none⟩) 3 3) ([a, b, d]))]) ok (Nat.le_of_ble_eq_true rfl) hL).mono ?_
            rintro _ w139 ⟨R140, c141, D142, vs143, rfl, O144⟩
            refine ⟨_, rfl, ?_⟩
            refine wl_val (v := .int .i64 ((findG L ⟨8, 0, [a, b, d]⟩).2)) (fun ρ e => ex_assign (e _ _ rfl)) rfl rfl ?_
            refine wl_nil ?_
            refine xw_next K131 ?_
            refine cw_ret ?_
            refine xw_ret (v := .int .i64 ((findG L ⟨8, 0, [a, b, d]⟩).2)) (fun T hT => res1 rfl T _ (hT 8 _ rfl)) ?_
            exact RPost.eq ⟨_, _, _, _, rfl, O144⟩ (by rw [chooseG, if_neg c4, if_neg (fun h => h.elim c14 c24), if_neg (fun h => c28 h.1), if_neg (fun h => c96 h.1)])
end
end Go.Proofs.YtbemhgojfehnjaaDoor
namespace Go.Proofs.YtbemhgojfehnjaaDoor
open Go Go.RowKit
theorem times_mem {x : Int} : ∀ {l : List Int}, timesOf x l = 0 ↔ x ∉ l
  | [] => by simp [timesOf]
  | y :: l => by
    rw [timesOf, List.mem_cons]
    have := times_mem (x := x) (l := l)
    by_cases e : y = x
    · simp [e]
    · rw [if_neg e, Nat.zero_add, this]
      exact ⟨fun h q => q.elim (fun z => e z.symm) h, fun h q => h (.inr q)⟩
theorem times_none {x : Int} {l : List Int} (h : ((timesOf x l : Nat) : Int) = 0) : x ∉ l := times_mem.1 (by omega)
theorem times_some {x : Int} {l : List Int} (h : ¬ ((timesOf x l : Nat) : Int) = 0) : x ∈ l := Classical.byContradiction fun q => h (by have := times_mem.2 q; omega)
theorem times_n {W : World} {V : Value} {l : List Int} {x : Int} {n : Nat} (hn : n = l.length) (hV : IntsV W W.heap.size V l) (hl : n ≤ 1000000000) : Calls Tryd.prog 84 #[V, .int .i64 x] W fun e w' => e = .returned (.int .i64 ((timesOf x l : Nat) : Int)) ∧ Below W.heap.size W w' := times_ hV (by omega)
section
variable {W : World} {f c B : Nat} {N : Int} {R : Option Addr} {D DI : Nat → Prop} {L : List Gate} {vs : List Value} {V : Value} {ins : List Int}
theorem rmany5 (O0 : Own (zone (refE f R c D L vs ++ [inE DI V ins])) W W (refE f R c D L vs ++ [inE DI V ins])) (hw : wfL N B L) (hd : ND L) (hin : ∀ x ∈ ins, 0 ≤ x ∧ x < (L.length : Int)) (hil : ins.length ≤ 1000000) (ok : shortL L) (hL : L.length ≤ 1000000) :
    Calls Tryd.prog 68 #[.pointer (some ⟨f, 0, none⟩), .int .i64 5, V] W (RPost (refE f R c D L vs ++ [inE DI V ins]) W f (manyG L 5 ins)) := by
  have hV : IntsD DI W V ins := O0.ro 3 rfl
  have hVf := fun (h : 0 < ins.length) => hV.form h
  obtain ⟨AI, cI, rfl⟩ := hV.slice
  refine sx_enter (args := [.pointer (some ⟨f, 0, none⟩), .int .i64 5, .slice AI ins.length cI]) Tryd.func68 rfl rfl (by simp) ?_
  refine cw_seq (fun FK1 K1 => ?_)
  refine cw_region ?_
  refine wl_val (v := .int .i64 0) (fun ρ e => ex_assign (e _ _ rfl)) rfl rfl ?_
  refine wl_nil ?_
  refine xw_next K1 ?_
  refine cw_seq (fun FK2 K2 => ?_)
  refine cw_region ?_
  refine wl_val (v := .int .i64 1) (fun ρ e => ex_assign (e _ _ rfl)) rfl rfl ?_
  refine wl_val (v := .int .i64 0) (fun ρ e => ex_assign (e _ _ rfl)) rfl rfl ?_
  refine wl_nil ?_
  refine xw_next K2 ?_
  refine cw_seq (fun FK3 K3 => ?_)
  refine cw_seq (fun FK4 K4 => ?_)
  refine cw_region ?_
  refine wl_val (v := .int .i64 5) (fun ρ e => ex_move (e _ _ rfl)) rfl rfl ?_
  refine wl_val (v := .bool true) (fun ρ e => ex_cmp (u := 5) (v := 5) (e _ _ rfl) (e _ _ rfl) (eql1 (by omega))) rfl rfl ?_
  refine wl_nil ?_
  refine xw_next K4 ?_
  refine cw_true rfl ?_
  refine cw_region ?_
  refine wl_val (v := .int .i64 0) (fun ρ e => ex_assign (e _ _ rfl)) rfl rfl ?_
  refine wl_val (v := .int .i64 1) (fun ρ e => ex_assign (e _ _ rfl)) rfl rfl ?_
  refine wl_nil ?_
  refine xw_next K3 ?_
  refine cw_seq (fun FK5 K5 => ?_)
  refine cw_region ?_
  refine wl_val (v := .slice none 0 0) (fun ρ e => ex_assign (e _ _ rfl)) rfl rfl ?_
  refine wl_nil ?_
  refine xw_next K5 ?_
  refine cw_seq (fun FK6 K6 => ?_)
  refine cw_seq (fun FK7 K7 => ?_)
  refine cw_region ?_
  refine wl_val (v := .int .i64 0) (fun ρ e => ex_assign (e _ _ rfl)) rfl rfl ?_
  refine wl_nil ?_
  refine xw_next K7 ?_
  refine cw_block ?_
  have O8 : Own (zone (refE f R c D L vs ++ [inE DI (.slice AI ins.length cI) ins])) W W [.row (.slice none 0 0) 3 1 0 (intCs []), .blk f 63 #[.slice R L.length c], .row (.slice R L.length c) 38 3 L.length (gcells L vs), .ro D (Ins D L vs), .ro DI (fun w => IntsD DI w (.slice AI ins.length cI) ins)] := O0.nilrow 3 1
  refine cw_loop (ι := Nat × Option Addr × Nat × Nat × List Int) (fun q => [(0, .pointer (some ⟨f, 0, none⟩)), (1, .int .i64 5), (2, .slice AI ins.length cI), (7, .int .i64 0), (8, .int .i64 1), (9, .slice q.2.1 q.2.2.2.1 q.2.2.1), (10, .int .i64 (q.1 : Int))]) (fun q X => (q.1 ≤ ins.length) ∧ (q.2.2.2.1 = q.2.2.2.2.length) ∧ (q.2.2.2.1 ≤ q.1) ∧ (∀ x ∈ q.2.2.2.2, 0 ≤ x ∧ x < (L.length : Int)) ∧ (manyGo L 0 1 ins [] = manyGo L 0 1 (ins.drop q.1) q.2.2.2.2) ∧ Own (zone (refE f R c D L vs ++ [inE DI (.slice AI ins.length cI) ins])) W X [.row (.slice q.2.1 q.2.2.2.1 q.2.2.1) 3 1 q.2.2.2.1 (intCs q.2.2.2.2), .blk f 63 #[.slice R L.length c], .row (.slice R L.length c) 38 3 L.length (gcells L vs), .ro D (Ins D L vs), .ro DI (fun w => IntsD DI w (.slice AI ins.length cI) ins)]) (fun q => ins.length - q.1) (0, none, 0, 0, []) ⟨Nat.zero_le _, rfl, Nat.zero_le _, (fun x hx => absurd hx (List.not_mem_nil)), rfl, O8⟩ ⟨rfl, rfl, rfl, rfl, rfl, rfl, rfl, trivial⟩ (fun q w9 hJ F10 K11 => ?_)
  obtain ⟨k, A, cA, n, l⟩ := q
  obtain ⟨hk0, hn, hnk, hl1, hgo, O12⟩ := hJ
  dsimp only at hk0 hn hnk hl1 hgo O12 ⊢
  by_cases hk : k < ins.length
  · obtain ⟨x, hxk, hdr, hxm⟩ := drop_cons hk
    have hxL := hin x hxm
    obtain ⟨bI, oI, cJ, hbI⟩ := hVf (by omega)
    refine cw_seq (fun FK13 K13 => ?_)
    refine cw_seq (fun FK14 K14 => ?_)
    refine cw_region ?_
    refine wl_val (v := .int .i64 (k : Int)) (fun ρ e => ex_move (e _ _ rfl)) rfl rfl ?_
    refine wl_val (v := .slice AI ins.length cI) (fun ρ e => ex_move (e _ _ rfl)) rfl rfl ?_
    refine wl_val (v := .int .i64 ((ins.length : Nat) : Int)) (fun ρ e => ex_len el36 (e _ _ rfl)) rfl rfl ?_
    refine wl_val (v := .bool true) (fun ρ e => ex_cmp (u := (k : Int)) (v := ((ins.length : Nat) : Int)) (e _ _ rfl) (e _ _ rfl) (lss1 (by omega))) rfl rfl ?_
    refine wl_nil ?_
    refine xw_next K14 ?_
    refine cw_true rfl ?_
    refine cw_skip ?_
    refine xw_next K13 ?_
    refine cw_seq (fun FK15 K15 => ?_)
    refine cw_block ?_
    refine cw_seq (fun FK16 K16 => ?_)
    refine cw_seq (fun FK17 K17 => ?_)
    refine cw_region ?_
    refine wl_val (v := .pointer (some ⟨f, 0, none⟩)) (fun ρ e => ex_move (e _ _ rfl)) rfl rfl ?_
    refine wl_val (v := .slice AI ins.length cI) (fun ρ e => ex_move (e _ _ rfl)) rfl rfl ?_
    refine wl_val (v := .int .i64 (k : Int)) (fun ρ e => ex_move (e _ _ rfl)) rfl rfl ?_
    refine wl_val (v := .pointer (some ⟨bI, oI + k, none⟩)) (fun ρ e => ex_idx (q := oI + k) (o := oI) (i := k) el36 ((e _ _ rfl).trans hbI) (e _ _ rfl) hk (by omega)) rfl rfl ?_
    refine wl_val (v := .int .i64 x) (fun ρ e => ex_load1 ty3 (e _ _ rfl) (IntsD.cellq ((hbI ▸ (O12.ro 4 rfl)) : IntsD DI _ (.slice (some ⟨bI, oI, none⟩) ins.length cJ) ins) hxk)) rfl rfl ?_
    refine wl_val (v := .int .i64 1) (fun ρ e => ex_move (e _ _ rfl)) rfl rfl ?_
    by_cases c18 : kindAt L x = 1
    · skip
      refine wl_call (args := [.pointer (some ⟨f, 0, none⟩), .int .i64 x, .int .i64 1]) in_83 rfl rfl rfl ?_
      refine (ris1 (f := f) (R := R) (c := c) (D := D) (L := L) (vs := vs) (rest := [.row (.slice A n cA) 3 1 n (intCs l), .ro DI (fun w => IntsD DI w (.slice AI ins.length cI) ins)]) (O12.re [1, 2, 3, 0, 4] rfl : Own (zone (refE f R c D L vs ++ [inE DI (.slice AI ins.length cI) ins])) W w9 [.blk f 63 #[.slice R L.length c], .row (.slice R L.length c) 38 3 L.length (gcells L vs), .ro D (Ins D L vs), .row (.slice A n cA) 3 1 n (intCs l), .ro DI (fun w => IntsD DI w (.slice AI ins.length cI) ins)]) hxL c18).mono ?_
      rintro _ w19 ⟨rfl, hb20⟩
      have O21 : Own (zone (refE f R c D L vs ++ [inE DI (.slice AI ins.length cI) ins])) W w19 [.row (.slice A n cA) 3 1 n (intCs l), .blk f 63 #[.slice R L.length c], .row (.slice R L.length c) 38 3 L.length (gcells L vs), .ro D (Ins D L vs), .ro DI (fun w => IntsD DI w (.slice AI ins.length cI) ins)] := O12.below hb20
      refine ⟨_, rfl, ?_⟩
      refine wl_nil ?_
      refine xw_next K17 ?_
      refine cw_true rfl ?_
      refine cw_seq (fun FK22 K22 => ?_)
      refine cw_region ?_
      refine wl_val (v := .pointer (some ⟨f, 0, none⟩)) (fun ρ e => ex_move (e _ _ rfl)) rfl rfl ?_
      refine wl_val (v := .int .i64 1) (fun ρ e => ex_move (e _ _ rfl)) rfl rfl ?_
      refine wl_call (args := [.pointer (some ⟨f, 0, none⟩), .int .i64 1, .int .i64 0, .slice none 0 0]) in_72 rfl rfl rfl ?_
      have O23 : Own (zone (refE f R c D L vs ++ [inE DI (.slice AI ins.length cI) ins])) W w19 [.ro (fun _ => False) (fun w => IntsD (fun _ => False) w (.slice none 0 0) ([])), .row (.slice A n cA) 3 1 n (intCs l), .blk f 63 #[.slice R L.length c], .row (.slice R L.length c) 38 3 L.length (gcells L vs), .ro D (Ins D L vs), .ro DI (fun w => IntsD DI w (.slice AI ins.length cI) ins)] := O21.nilin
      refine (call_rfind (f := f) (R := R) (c := c) (D := D) (L := L) (vs := vs) (D2 := (fun _ => False)) (V := .slice none 0 0) (g := ⟨1, 0, []⟩) (rest := [.row (.slice A n cA) 3 1 n (intCs l), .ro DI (fun w => IntsD DI w (.slice AI ins.length cI) ins)]) (O23.re [2, 3, 4, 0, 1, 5] rfl : Own (zone (refE f R c D L vs ++ [inE DI (.slice AI ins.length cI) ins])) W w19 [.blk f 63 #[.slice R L.length c], .row (.slice R L.length c) 38 3 L.length (gcells L vs), .ro D (Ins D L vs), .ro (fun _ => False) (fun w => IntsD (fun _ => False) w (.slice none 0 0) ([])), .row (.slice A n cA) 3 1 n (intCs l), .ro DI (fun w => IntsD DI w (.slice AI ins.length cI) ins)]) ok (Nat.le_of_ble_eq_true rfl) hL).mono ?_
      rintro _ w24 ⟨R25, c26, D27, vs28, rfl, O29⟩
      refine ⟨_, rfl, ?_⟩
      refine wl_val (v := .int .i64 ((findG L ⟨1, 0, []⟩).2)) (fun ρ e => ex_assign (e _ _ rfl)) rfl rfl ?_
      refine wl_nil ?_
      refine xw_next K22 ?_
      refine cw_ret ?_
      refine xw_past (by intro h; cases h) ?_
      refine xw_blockret ?_
      refine xw_past (by intro h; cases h) ?_
      refine xw_past (by intro h; cases h) ?_
      refine xw_blockret ?_
      refine xw_past (by intro h; cases h) ?_
      refine xw_ret (v := .int .i64 ((findG L ⟨1, 0, []⟩).2)) (fun T hT => res1 rfl T _ (hT 6 _ rfl)) ?_
      exact RPost.eq ⟨_, _, _, _, rfl, (O29.re [0, 1, 2] rfl : Own (zone (refE f R c D L vs ++ [inE DI (.slice AI ins.length cI) ins])) W w24 [.blk f 63 #[.slice R25 (((findG L ⟨1, 0, []⟩).1).length) c26], .row (.slice R25 (((findG L ⟨1, 0, []⟩).1).length) c26) 38 3 (((findG L ⟨1, 0, []⟩).1).length) (gcells ((findG L ⟨1, 0, []⟩).1) vs28), .ro D27 (Ins D27 ((findG L ⟨1, 0, []⟩).1) vs28)])⟩ (by rw [manyG_or, hgo, hdr, manyGo, if_pos c18]; exact (find_atI hd hxL (true_gate hw hxL c18)).symm)
    · skip
      refine wl_call (args := [.pointer (some ⟨f, 0, none⟩), .int .i64 x, .int .i64 1]) in_83 rfl rfl rfl ?_
      refine (ris0 (f := f) (R := R) (c := c) (D := D) (L := L) (vs := vs) (rest := [.row (.slice A n cA) 3 1 n (intCs l), .ro DI (fun w => IntsD DI w (.slice AI ins.length cI) ins)]) (O12.re [1, 2, 3, 0, 4] rfl : Own (zone (refE f R c D L vs ++ [inE DI (.slice AI ins.length cI) ins])) W w9 [.blk f 63 #[.slice R L.length c], .row (.slice R L.length c) 38 3 L.length (gcells L vs), .ro D (Ins D L vs), .row (.slice A n cA) 3 1 n (intCs l), .ro DI (fun w => IntsD DI w (.slice AI ins.length cI) ins)]) hxL c18).mono ?_
      rintro _ w30 ⟨rfl, hb31⟩
      have O32 : Own (zone (refE f R c D L vs ++ [inE DI (.slice AI ins.length cI) ins])) W w30 [.row (.slice A n cA) 3 1 n (intCs l), .blk f 63 #[.slice R L.length c], .row (.slice R L.length c) 38 3 L.length (gcells L vs), .ro D (Ins D L vs), .ro DI (fun w => IntsD DI w (.slice AI ins.length cI) ins)] := O12.below hb31
      refine ⟨_, rfl, ?_⟩
      refine wl_nil ?_
      refine xw_next K17 ?_
      refine cw_false rfl ?_
      refine cw_skip ?_
      refine xw_next K16 ?_
      refine cw_seq (fun FK33 K33 => ?_)
      refine cw_region ?_
      refine wl_val (v := .pointer (some ⟨f, 0, none⟩)) (fun ρ e => ex_move (e _ _ rfl)) rfl rfl ?_
      refine wl_val (v := .slice AI ins.length cI) (fun ρ e => ex_move (e _ _ rfl)) rfl rfl ?_
      refine wl_val (v := .int .i64 (k : Int)) (fun ρ e => ex_move (e _ _ rfl)) rfl rfl ?_
      refine wl_val (v := .pointer (some ⟨bI, oI + k, none⟩)) (fun ρ e => ex_idx (q := oI + k) (o := oI) (i := k) el36 ((e _ _ rfl).trans hbI) (e _ _ rfl) hk (by omega)) rfl rfl ?_
      refine wl_val (v := .int .i64 x) (fun ρ e => ex_load1 ty3 (e _ _ rfl) (IntsD.cellq ((hbI ▸ (O32.ro 4 rfl)) : IntsD DI _ (.slice (some ⟨bI, oI, none⟩) ins.length cJ) ins) hxk)) rfl rfl ?_
      refine wl_val (v := .int .i64 0) (fun ρ e => ex_move (e _ _ rfl)) rfl rfl ?_
      by_cases c34 : kindAt L x = 0
      · skip
        refine wl_call (args := [.pointer (some ⟨f, 0, none⟩), .int .i64 x, .int .i64 0]) in_83 rfl rfl rfl ?_
        refine (ris1 (f := f) (R := R) (c := c) (D := D) (L := L) (vs := vs) (rest := [.row (.slice A n cA) 3 1 n (intCs l), .ro DI (fun w => IntsD DI w (.slice AI ins.length cI) ins)]) (O32.re [1, 2, 3, 0, 4] rfl : Own (zone (refE f R c D L vs ++ [inE DI (.slice AI ins.length cI) ins])) W w30 [.blk f 63 #[.slice R L.length c], .row (.slice R L.length c) 38 3 L.length (gcells L vs), .ro D (Ins D L vs), .row (.slice A n cA) 3 1 n (intCs l), .ro DI (fun w => IntsD DI w (.slice AI ins.length cI) ins)]) hxL c34).mono ?_
        rintro _ w35 ⟨rfl, hb36⟩
        have O37 : Own (zone (refE f R c D L vs ++ [inE DI (.slice AI ins.length cI) ins])) W w35 [.row (.slice A n cA) 3 1 n (intCs l), .blk f 63 #[.slice R L.length c], .row (.slice R L.length c) 38 3 L.length (gcells L vs), .ro D (Ins D L vs), .ro DI (fun w => IntsD DI w (.slice AI ins.length cI) ins)] := O32.below hb36
        refine ⟨_, rfl, ?_⟩
        refine wl_val (v := .bool false) (fun ρ e => ex_lnot (b := true) (e _ _ rfl)) rfl rfl ?_
        refine wl_val (v := .bool false) (fun ρ e => ex_move (e _ _ rfl)) rfl rfl ?_
        refine wl_skip rfl rfl ?_
        refine wl_skip rfl rfl ?_
        refine wl_skip rfl rfl ?_
        refine wl_skip rfl rfl ?_
        refine wl_skip rfl rfl ?_
        refine wl_skip rfl rfl ?_
        refine wl_skip rfl rfl ?_
        refine wl_val (v := .bool false) (fun ρ e => ex_pick0 (e _ _ rfl) (e _ _ rfl)) rfl rfl ?_
        refine wl_nil ?_
        refine xw_next K33 ?_
        refine cw_false rfl ?_
        refine cw_skip ?_
        refine xw_block ?_
        refine xw_next K15 ?_
        refine cw_region ?_
        refine wl_val (v := .int .i64 (k : Int)) (fun ρ e => ex_move (e _ _ rfl)) rfl rfl ?_
        refine wl_val (v := .int .i64 ((k + 1 : Nat) : Int)) (fun ρ e => ex_arith (k := .i64) (u := (k : Int)) (v := 1) (e _ _ rfl) (e _ _ rfl) (congrArg some ((congrArg _ (by omega)).trans (wrap_in (u := ((k + 1 : Nat) : Int)) (by omega) (by omega))))) rfl rfl ?_
        refine wl_val (v := .int .i64 ((k + 1 : Nat) : Int)) (fun ρ e => ex_assign (e _ _ rfl)) rfl rfl ?_
        refine wl_nil ?_
        refine xw_round K11 (k + 1, A, cA, n, l) (by show ins.length - (k + 1) < ins.length - k; omega) ⟨(by show k + 1 ≤ _; omega), hn, (by show n ≤ k + 1; omega), hl1, (by show _ = manyGo L 0 1 (ins.drop (k + 1)) l; rw [hgo, hdr, manyGo, if_neg c18, if_neg (fun h => h.1 c34)]), O37⟩ ⟨rfl, rfl, rfl, rfl, rfl, rfl, rfl, trivial⟩
      · skip
        refine wl_call (args := [.pointer (some ⟨f, 0, none⟩), .int .i64 x, .int .i64 0]) in_83 rfl rfl rfl ?_
        refine (ris0 (f := f) (R := R) (c := c) (D := D) (L := L) (vs := vs) (rest := [.row (.slice A n cA) 3 1 n (intCs l), .ro DI (fun w => IntsD DI w (.slice AI ins.length cI) ins)]) (O32.re [1, 2, 3, 0, 4] rfl : Own (zone (refE f R c D L vs ++ [inE DI (.slice AI ins.length cI) ins])) W w30 [.blk f 63 #[.slice R L.length c], .row (.slice R L.length c) 38 3 L.length (gcells L vs), .ro D (Ins D L vs), .row (.slice A n cA) 3 1 n (intCs l), .ro DI (fun w => IntsD DI w (.slice AI ins.length cI) ins)]) hxL c34).mono ?_
        rintro _ w38 ⟨rfl, hb39⟩
        have O40 : Own (zone (refE f R c D L vs ++ [inE DI (.slice AI ins.length cI) ins])) W w38 [.row (.slice A n cA) 3 1 n (intCs l), .blk f 63 #[.slice R L.length c], .row (.slice R L.length c) 38 3 L.length (gcells L vs), .ro D (Ins D L vs), .ro DI (fun w => IntsD DI w (.slice AI ins.length cI) ins)] := O32.below hb39
        refine ⟨_, rfl, ?_⟩
        refine wl_val (v := .bool true) (fun ρ e => ex_lnot (b := false) (e _ _ rfl)) rfl rfl ?_
        refine wl_val (v := .bool true) (fun ρ e => ex_move (e _ _ rfl)) rfl rfl ?_
        refine wl_val (v := .slice A n cA) (fun ρ e => ex_move (e _ _ rfl)) rfl rfl ?_
        refine wl_val (v := .slice AI ins.length cI) (fun ρ e => ex_move (e _ _ rfl)) rfl rfl ?_
        refine wl_val (v := .int .i64 (k : Int)) (fun ρ e => ex_move (e _ _ rfl)) rfl rfl ?_
        refine wl_val (v := .pointer (some ⟨bI, oI + k, none⟩)) (fun ρ e => ex_idx (q := oI + k) (o := oI) (i := k) el36 ((e _ _ rfl).trans hbI) (e _ _ rfl) hk (by omega)) rfl rfl ?_
        refine wl_val (v := .int .i64 x) (fun ρ e => ex_load1 ty3 (e _ _ rfl) (IntsD.cellq ((hbI ▸ (O40.ro 4 rfl)) : IntsD DI _ (.slice (some ⟨bI, oI, none⟩) ins.length cJ) ins) hxk)) rfl rfl ?_
        refine wl_call (args := [.slice A n cA, .int .i64 x]) in_84 rfl rfl rfl ?_
        refine (times_n hn (x := x) ((IntsD.of_row (l := l) (O40.row 0 rfl)).V (fun k hk => (World.ownsRow.lt (O40.row 0 rfl) k hk).2)) (by omega)).mono ?_
        rintro _ w41 ⟨rfl, hb42⟩
        have O43 : Own (zone (refE f R c D L vs ++ [inE DI (.slice AI ins.length cI) ins])) W w41 [.row (.slice A n cA) 3 1 n (intCs l), .blk f 63 #[.slice R L.length c], .row (.slice R L.length c) 38 3 L.length (gcells L vs), .ro D (Ins D L vs), .ro DI (fun w => IntsD DI w (.slice AI ins.length cI) ins)] := O40.below hb42
        refine ⟨_, rfl, ?_⟩
        by_cases c44 : ((timesOf x l : Nat) : Int) = 0
        · skip
          refine wl_val (v := .bool true) (fun ρ e => ex_cmp (u := ((timesOf x l : Nat) : Int)) (v := 0) (e _ _ rfl) (e _ _ rfl) (eql1 (by omega))) rfl rfl ?_
          refine wl_val (v := .bool true) (fun ρ e => ex_pick1 (e _ _ rfl) (e _ _ rfl)) rfl rfl ?_
          refine wl_nil ?_
          refine xw_next K33 ?_
          refine cw_true rfl ?_
          refine cw_region ?_
          refine wl_val (v := .slice A n cA) (fun ρ e => ex_move (e _ _ rfl)) rfl rfl ?_
          refine wl_val (v := .slice AI ins.length cI) (fun ρ e => ex_move (e _ _ rfl)) rfl rfl ?_
          refine wl_val (v := .int .i64 (k : Int)) (fun ρ e => ex_move (e _ _ rfl)) rfl rfl ?_
          refine wl_val (v := .pointer (some ⟨bI, oI + k, none⟩)) (fun ρ e => ex_idx (q := oI + k) (o := oI) (i := k) el36 ((e _ _ rfl).trans hbI) (e _ _ rfl) hk (by omega)) rfl rfl ?_
          refine wl_val (v := .int .i64 x) (fun ρ e => ex_load1 ty3 (e _ _ rfl) (IntsD.cellq ((hbI ▸ (O43.ro 4 rfl)) : IntsD DI _ (.slice (some ⟨bI, oI, none⟩) ins.length cJ) ins) hxk)) rfl rfl ?_
          obtain ⟨g45, w46, r47, O48, hg49, hs50⟩ := own_slice O43 el36 ze3 1 [(0, .int .i64 x)] (cs := #[.int .i64 x]) (by decide) (by kernel_rfl)
          refine wl_val (v := .slice (some ⟨g45, 0, none⟩) 1 1) (fun ρ e => r47 ρ _ _ _ _ _ _ (e.parts rfl)) rfl rfl ?_
          obtain ⟨A51, c52, w53, r54, O55, hz56, hc57⟩ := own_app1 (O48.re [1, 0, 2, 3, 4, 5] rfl : Own (zone (refE f R c D L vs ++ [inE DI (.slice AI ins.length cI) ins])) W w46 [.row (.slice A n cA) 3 1 n (intCs l), .blk g45 3 #[.int .i64 x], .blk f 63 #[.slice R L.length c], .row (.slice R L.length c) 38 3 L.length (gcells L vs), .ro D (Ins D L vs), .ro DI (fun w => IntsD DI w (.slice AI ins.length cI) ins)]) ap36 ((O48.re [1, 0, 2, 3, 4, 5] rfl : Own (zone (refE f R c D L vs ++ [inE DI (.slice AI ins.length cI) ins])) W w46 [.row (.slice A n cA) 3 1 n (intCs l), .blk g45 3 #[.int .i64 x], .blk f 63 #[.slice R L.length c], .row (.slice R L.length c) 38 3 L.length (gcells L vs), .ro D (Ins D L vs), .ro DI (fun w => IntsD DI w (.slice AI ins.length cI) ins)]).blk 1 rfl) (cells := [.int .i64 x]) rfl rfl (by omega) (by omega) (ys := (intCs (l ++ [x]))) (intCs_snoc l x)
          refine wl_val (v := .slice A51 (n + 1) c52) (fun ρ e => r54 ρ _ _ _ _ _ _ _ (e _ _ rfl) (e _ _ rfl)) rfl rfl ?_
          refine wl_val (v := .slice A51 (n + 1) c52) (fun ρ e => ex_assign (e _ _ rfl)) rfl rfl ?_
          refine wl_nil ?_
          refine xw_block ?_
          refine xw_next K15 ?_
          refine cw_region ?_
          refine wl_val (v := .int .i64 (k : Int)) (fun ρ e => ex_move (e _ _ rfl)) rfl rfl ?_
          refine wl_val (v := .int .i64 ((k + 1 : Nat) : Int)) (fun ρ e => ex_arith (k := .i64) (u := (k : Int)) (v := 1) (e _ _ rfl) (e _ _ rfl) (congrArg some ((congrArg _ (by omega)).trans (wrap_in (u := ((k + 1 : Nat) : Int)) (by omega) (by omega))))) rfl rfl ?_
          refine wl_val (v := .int .i64 ((k + 1 : Nat) : Int)) (fun ρ e => ex_assign (e _ _ rfl)) rfl rfl ?_
          refine wl_nil ?_
          refine xw_round K11 (k + 1, A51, c52, n + 1, l ++ [x]) (by show ins.length - (k + 1) < ins.length - k; omega) ⟨(by show k + 1 ≤ _; omega), (by show n + 1 = (l ++ [x]).length; simp [hn]), (by show n + 1 ≤ k + 1; omega), (fun y hy => (List.mem_append.1 hy).elim (hl1 y) (fun h => by rw [List.mem_singleton.1 h]; exact hxL)), (by show _ = manyGo L 0 1 (ins.drop (k + 1)) (l ++ [x]); rw [hgo, hdr, manyGo, if_neg c18, if_pos ⟨c34, (times_none c44)⟩]), (O55.re [0, 2, 3, 4, 5] rfl : Own (zone (refE f R c D L vs ++ [inE DI (.slice AI ins.length cI) ins])) W w53 [.row (.slice A51 (n + 1) c52) 3 1 (n + 1) (intCs (l ++ [x])), .blk f 63 #[.slice R L.length c], .row (.slice R L.length c) 38 3 L.length (gcells L vs), .ro D (Ins D L vs), .ro DI (fun w => IntsD DI w (.slice AI ins.length cI) ins)])⟩ ⟨rfl, rfl, rfl, rfl, rfl, rfl, rfl, trivial⟩
        · skip
          refine wl_val (v := .bool false) (fun ρ e => ex_cmp (u := ((timesOf x l : Nat) : Int)) (v := 0) (e _ _ rfl) (e _ _ rfl) (eql0 (by omega))) rfl rfl ?_
          refine wl_val (v := .bool false) (fun ρ e => ex_pick1 (e _ _ rfl) (e _ _ rfl)) rfl rfl ?_
          refine wl_nil ?_
          refine xw_next K33 ?_
          refine cw_false rfl ?_
          refine cw_skip ?_
          refine xw_block ?_
          refine xw_next K15 ?_
          refine cw_region ?_
          refine wl_val (v := .int .i64 (k : Int)) (fun ρ e => ex_move (e _ _ rfl)) rfl rfl ?_
          refine wl_val (v := .int .i64 ((k + 1 : Nat) : Int)) (fun ρ e => ex_arith (k := .i64) (u := (k : Int)) (v := 1) (e _ _ rfl) (e _ _ rfl) (congrArg some ((congrArg _ (by omega)).trans (wrap_in (u := ((k + 1 : Nat) : Int)) (by omega) (by omega))))) rfl rfl ?_
          refine wl_val (v := .int .i64 ((k + 1 : Nat) : Int)) (fun ρ e => ex_assign (e _ _ rfl)) rfl rfl ?_
          refine wl_nil ?_
          refine xw_round K11 (k + 1, A, cA, n, l) (by show ins.length - (k + 1) < ins.length - k; omega) ⟨(by show k + 1 ≤ _; omega), hn, (by show n ≤ k + 1; omega), hl1, (by show _ = manyGo L 0 1 (ins.drop (k + 1)) l; rw [hgo, hdr, manyGo, if_neg c18, if_neg (fun h => h.2 (times_some c44))]), O43⟩ ⟨rfl, rfl, rfl, rfl, rfl, rfl, rfl, trivial⟩
  · have hke : k = ins.length := by omega
    rw [List.drop_eq_nil_of_le (by omega)] at hgo
    simp only [manyGo] at hgo
    refine cw_seq (fun FK58 K58 => ?_)
    refine cw_seq (fun FK59 K59 => ?_)
    refine cw_region ?_
    refine wl_val (v := .int .i64 (k : Int)) (fun ρ e => ex_move (e _ _ rfl)) rfl rfl ?_
    refine wl_val (v := .slice AI ins.length cI) (fun ρ e => ex_move (e _ _ rfl)) rfl rfl ?_
    refine wl_val (v := .int .i64 ((ins.length : Nat) : Int)) (fun ρ e => ex_len el36 (e _ _ rfl)) rfl rfl ?_
    refine wl_val (v := .bool false) (fun ρ e => ex_cmp (u := (k : Int)) (v := ((ins.length : Nat) : Int)) (e _ _ rfl) (e _ _ rfl) (lss0 (by omega))) rfl rfl ?_
    refine wl_nil ?_
    refine xw_next K59 ?_
    refine cw_false rfl ?_
    refine cw_exit ?_
    refine xw_past (by intro h; cases h) ?_
    refine xw_past (by intro h; cases h) ?_
    refine xw_here ?_
    refine xw_next K6 ?_
    refine cw_seq (fun FK60 K60 => ?_)
    refine cw_seq (fun FK61 K61 => ?_)
    rcases l with _ | ⟨x, _ | ⟨x2, l2⟩⟩
    · have hn' : n = 0 := hn
      refine cw_region ?_
      refine wl_val (v := .slice A n cA) (fun ρ e => ex_move (e _ _ rfl)) rfl rfl ?_
      refine wl_val (v := .int .i64 (n : Int)) (fun ρ e => ex_len el36 (e _ _ rfl)) rfl rfl ?_
      refine wl_val (v := .bool true) (fun ρ e => ex_cmp (u := (n : Int)) (v := 0) (e _ _ rfl) (e _ _ rfl) (eql1 (by omega))) rfl rfl ?_
      refine wl_nil ?_
      refine xw_next K61 ?_
      refine cw_true rfl ?_
      refine cw_seq (fun FK62 K62 => ?_)
      refine cw_region ?_
      refine wl_val (v := .pointer (some ⟨f, 0, none⟩)) (fun ρ e => ex_move (e _ _ rfl)) rfl rfl ?_
      refine wl_val (v := .int .i64 0) (fun ρ e => ex_move (e _ _ rfl)) rfl rfl ?_
      refine wl_call (args := [.pointer (some ⟨f, 0, none⟩), .int .i64 0, .int .i64 0, .slice none 0 0]) in_72 rfl rfl rfl ?_
      have O63 : Own (zone (refE f R c D L vs ++ [inE DI (.slice AI ins.length cI) ins])) W w9 [.ro (fun _ => False) (fun w => IntsD (fun _ => False) w (.slice none 0 0) ([])), .row (.slice A n cA) 3 1 n (intCs []), .blk f 63 #[.slice R L.length c], .row (.slice R L.length c) 38 3 L.length (gcells L vs), .ro D (Ins D L vs), .ro DI (fun w => IntsD DI w (.slice AI ins.length cI) ins)] := O12.nilin
      refine (call_rfind (f := f) (R := R) (c := c) (D := D) (L := L) (vs := vs) (D2 := (fun _ => False)) (V := .slice none 0 0) (g := ⟨0, 0, []⟩) (rest := [.row (.slice A n cA) 3 1 n (intCs []), .ro DI (fun w => IntsD DI w (.slice AI ins.length cI) ins)]) (O63.re [2, 3, 4, 0, 1, 5] rfl : Own (zone (refE f R c D L vs ++ [inE DI (.slice AI ins.length cI) ins])) W w9 [.blk f 63 #[.slice R L.length c], .row (.slice R L.length c) 38 3 L.length (gcells L vs), .ro D (Ins D L vs), .ro (fun _ => False) (fun w => IntsD (fun _ => False) w (.slice none 0 0) ([])), .row (.slice A n cA) 3 1 n (intCs []), .ro DI (fun w => IntsD DI w (.slice AI ins.length cI) ins)]) ok (Nat.le_of_ble_eq_true rfl) hL).mono ?_
      rintro _ w64 ⟨R65, c66, D67, vs68, rfl, O69⟩
      refine ⟨_, rfl, ?_⟩
      refine wl_val (v := .int .i64 ((findG L ⟨0, 0, []⟩).2)) (fun ρ e => ex_assign (e _ _ rfl)) rfl rfl ?_
      refine wl_nil ?_
      refine xw_next K62 ?_
      refine cw_ret ?_
      refine xw_past (by intro h; cases h) ?_
      refine xw_ret (v := .int .i64 ((findG L ⟨0, 0, []⟩).2)) (fun T hT => res1 rfl T _ (hT 6 _ rfl)) ?_
      exact RPost.eq ⟨_, _, _, _, rfl, (O69.re [0, 1, 2] rfl : Own (zone (refE f R c D L vs ++ [inE DI (.slice AI ins.length cI) ins])) W w64 [.blk f 63 #[.slice R65 (((findG L ⟨0, 0, []⟩).1).length) c66], .row (.slice R65 (((findG L ⟨0, 0, []⟩).1).length) c66) 38 3 (((findG L ⟨0, 0, []⟩).1).length) (gcells ((findG L ⟨0, 0, []⟩).1) vs68), .ro D67 (Ins D67 ((findG L ⟨0, 0, []⟩).1) vs68)])⟩ (by rw [manyG_or, hgo])
    · have hn' : n = 1 := hn
      obtain ⟨gl, rfl⟩ := O12.rowshape 0 rfl (by omega)
      refine cw_region ?_
      refine wl_val (v := .slice (some ⟨gl, 0, none⟩) n cA) (fun ρ e => ex_move (e _ _ rfl)) rfl rfl ?_
      refine wl_val (v := .int .i64 (n : Int)) (fun ρ e => ex_len el36 (e _ _ rfl)) rfl rfl ?_
      refine wl_val (v := .bool false) (fun ρ e => ex_cmp (u := (n : Int)) (v := 0) (e _ _ rfl) (e _ _ rfl) (eql0 (by omega))) rfl rfl ?_
      refine wl_nil ?_
      refine xw_next K61 ?_
      refine cw_false rfl ?_
      refine cw_skip ?_
      refine xw_next K60 ?_
      refine cw_seq (fun FK70 K70 => ?_)
      refine cw_seq (fun FK71 K71 => ?_)
      refine cw_region ?_
      refine wl_val (v := .slice (some ⟨gl, 0, none⟩) n cA) (fun ρ e => ex_move (e _ _ rfl)) rfl rfl ?_
      refine wl_val (v := .int .i64 (n : Int)) (fun ρ e => ex_len el36 (e _ _ rfl)) rfl rfl ?_
      refine wl_val (v := .bool true) (fun ρ e => ex_cmp (u := (n : Int)) (v := 1) (e _ _ rfl) (e _ _ rfl) (eql1 (by omega))) rfl rfl ?_
      refine wl_nil ?_
      refine xw_next K71 ?_
      refine cw_true rfl ?_
      refine cw_seq (fun FK72 K72 => ?_)
      refine cw_region ?_
      refine wl_val (v := .slice (some ⟨gl, 0, none⟩) n cA) (fun ρ e => ex_move (e _ _ rfl)) rfl rfl ?_
      refine wl_val (v := .pointer (some ⟨gl, 0, none⟩)) (fun ρ e => ex_idx (q := 0) (i := 0) el36 (e _ _ rfl) (e _ _ rfl) (by omega) (by omega)) rfl rfl ?_
      refine wl_val (v := .int .i64 x) (fun ρ e => ex_load1 ty3 (e _ _ rfl) (rowcell (O12.row 0 rfl) (j := 0) rfl)) rfl rfl ?_
      refine wl_val (v := .int .i64 x) (fun ρ e => ex_assign (e _ _ rfl)) rfl rfl ?_
      refine wl_nil ?_
      refine xw_next K72 ?_
      refine cw_ret ?_
      refine xw_past (by intro h; cases h) ?_
      refine xw_ret (v := .int .i64 x) (fun T hT => res1 rfl T _ (hT 6 _ rfl)) ?_
      exact RPost.eq (q' := (L, x)) ⟨_, _, _, _, rfl, (O12.re [1, 2, 3] rfl : Own (zone (refE f R c D L vs ++ [inE DI (.slice AI ins.length cI) ins])) W w9 [.blk f 63 #[.slice R L.length c], .row (.slice R L.length c) 38 3 L.length (gcells L vs), .ro D (Ins D L vs)])⟩ (by rw [manyG_or, hgo])
    · have hn' : n = l2.length + 2 := hn
      refine cw_region ?_
      refine wl_val (v := .slice A n cA) (fun ρ e => ex_move (e _ _ rfl)) rfl rfl ?_
      refine wl_val (v := .int .i64 (n : Int)) (fun ρ e => ex_len el36 (e _ _ rfl)) rfl rfl ?_
      refine wl_val (v := .bool false) (fun ρ e => ex_cmp (u := (n : Int)) (v := 0) (e _ _ rfl) (e _ _ rfl) (eql0 (by omega))) rfl rfl ?_
      refine wl_nil ?_
      refine xw_next K61 ?_
      refine cw_false rfl ?_
      refine cw_skip ?_
      refine xw_next K60 ?_
      refine cw_seq (fun FK73 K73 => ?_)
      refine cw_seq (fun FK74 K74 => ?_)
      refine cw_region ?_
      refine wl_val (v := .slice A n cA) (fun ρ e => ex_move (e _ _ rfl)) rfl rfl ?_
      refine wl_val (v := .int .i64 (n : Int)) (fun ρ e => ex_len el36 (e _ _ rfl)) rfl rfl ?_
      refine wl_val (v := .bool false) (fun ρ e => ex_cmp (u := (n : Int)) (v := 1) (e _ _ rfl) (e _ _ rfl) (eql0 (by omega))) rfl rfl ?_
      refine wl_nil ?_
      refine xw_next K74 ?_
      refine cw_false rfl ?_
      refine cw_skip ?_
      refine xw_next K73 ?_
      refine cw_seq (fun FK75 K75 => ?_)
      refine cw_region ?_
      refine wl_val (v := .pointer (some ⟨f, 0, none⟩)) (fun ρ e => ex_move (e _ _ rfl)) rfl rfl ?_
      refine wl_val (v := .int .i64 5) (fun ρ e => ex_move (e _ _ rfl)) rfl rfl ?_
      refine wl_val (v := .slice A n cA) (fun ρ e => ex_move (e _ _ rfl)) rfl rfl ?_
      refine wl_call (args := [.pointer (some ⟨f, 0, none⟩), .int .i64 5, .int .i64 0, .slice A n cA]) in_72 rfl rfl rfl ?_
      have O76 : Own (zone (refE f R c D L vs ++ [inE DI (.slice AI ins.length cI) ins])) W w9 [.ro (fun k => (Value.ownBlock (.slice A n cA)) = some k) (fun w => IntsD (fun k => (Value.ownBlock (.slice A n cA)) = some k) w (.slice A n cA) (x :: x2 :: l2)), .blk f 63 #[.slice R L.length c], .row (.slice R L.length c) 38 3 L.length (gcells L vs), .ro D (Ins D L vs), .ro DI (fun w => IntsD DI w (.slice AI ins.length cI) ins)] := Own.rowin (l := (x :: x2 :: l2)) O12
      refine (call_rfind (f := f) (R := R) (c := c) (D := D) (L := L) (vs := vs) (D2 := (fun k => (Value.ownBlock (.slice A n cA)) = some k)) (V := .slice A n cA) (g := ⟨5, 0, (x :: x2 :: l2)⟩) (rest := [.ro DI (fun w => IntsD DI w (.slice AI ins.length cI) ins)]) (O76.re [1, 2, 3, 0, 4] rfl : Own (zone (refE f R c D L vs ++ [inE DI (.slice AI ins.length cI) ins])) W w9 [.blk f 63 #[.slice R L.length c], .row (.slice R L.length c) 38 3 L.length (gcells L vs), .ro D (Ins D L vs), .ro (fun k => (Value.ownBlock (.slice A n cA)) = some k) (fun w => IntsD (fun k => (Value.ownBlock (.slice A n cA)) = some k) w (.slice A n cA) (x :: x2 :: l2)), .ro DI (fun w => IntsD DI w (.slice AI ins.length cI) ins)]) ok (show _ ≤ _ from by simp only [List.length_cons]; omega) hL).mono ?_
      rintro _ w77 ⟨R78, c79, D80, vs81, rfl, O82⟩
      refine ⟨_, rfl, ?_⟩
      refine wl_val (v := .int .i64 ((findG L ⟨5, 0, (x :: x2 :: l2)⟩).2)) (fun ρ e => ex_assign (e _ _ rfl)) rfl rfl ?_
      refine wl_nil ?_
      refine xw_next K75 ?_
      refine cw_ret ?_
      refine xw_ret (v := .int .i64 ((findG L ⟨5, 0, (x :: x2 :: l2)⟩).2)) (fun T hT => res1 rfl T _ (hT 6 _ rfl)) ?_
      exact RPost.eq ⟨_, _, _, _, rfl, (O82.re [0, 1, 2] rfl : Own (zone (refE f R c D L vs ++ [inE DI (.slice AI ins.length cI) ins])) W w77 [.blk f 63 #[.slice R78 (((findG L ⟨5, 0, (x :: x2 :: l2)⟩).1).length) c79], .row (.slice R78 (((findG L ⟨5, 0, (x :: x2 :: l2)⟩).1).length) c79) 38 3 (((findG L ⟨5, 0, (x :: x2 :: l2)⟩).1).length) (gcells ((findG L ⟨5, 0, (x :: x2 :: l2)⟩).1) vs81), .ro D80 (Ins D80 ((findG L ⟨5, 0, (x :: x2 :: l2)⟩).1) vs81)])⟩ (by rw [manyG_or, hgo])
theorem rmany4 (O0 : Own (zone (refE f R c D L vs ++ [inE DI V ins])) W W (refE f R c D L vs ++ [inE DI V ins])) (hw : wfL N B L) (hd : ND L) (hin : ∀ x ∈ ins, 0 ≤ x ∧ x < (L.length : Int)) (hil : ins.length ≤ 1000000) (ok : shortL L) (hL : L.length ≤ 1000000) :
    Calls Tryd.prog 68 #[.pointer (some ⟨f, 0, none⟩), .int .i64 4, V] W (RPost (refE f R c D L vs ++ [inE DI V ins]) W f (manyG L 4 ins)) := by
  have hV : IntsD DI W V ins := O0.ro 3 rfl
  have hVf := fun (h : 0 < ins.length) => hV.form h
  obtain ⟨AI, cI, rfl⟩ := hV.slice
  refine sx_enter (args := [.pointer (some ⟨f, 0, none⟩), .int .i64 4, .slice AI ins.length cI]) Tryd.func68 rfl rfl (by simp) ?_
  refine cw_seq (fun FK1 K1 => ?_)
  refine cw_region ?_
  refine wl_val (v := .int .i64 0) (fun ρ e => ex_assign (e _ _ rfl)) rfl rfl ?_
  refine wl_nil ?_
  refine xw_next K1 ?_
  refine cw_seq (fun FK2 K2 => ?_)
  refine cw_region ?_
  refine wl_val (v := .int .i64 1) (fun ρ e => ex_assign (e _ _ rfl)) rfl rfl ?_
  refine wl_val (v := .int .i64 0) (fun ρ e => ex_assign (e _ _ rfl)) rfl rfl ?_
  refine wl_nil ?_
  refine xw_next K2 ?_
  refine cw_seq (fun FK3 K3 => ?_)
  refine cw_seq (fun FK4 K4 => ?_)
  refine cw_region ?_
  refine wl_val (v := .int .i64 4) (fun ρ e => ex_move (e _ _ rfl)) rfl rfl ?_
  refine wl_val (v := .bool false) (fun ρ e => ex_cmp (u := 4) (v := 5) (e _ _ rfl) (e _ _ rfl) (eql0 (by omega))) rfl rfl ?_
  refine wl_nil ?_
  refine xw_next K4 ?_
  refine cw_false rfl ?_
  refine cw_skip ?_
  refine xw_next K3 ?_
  refine cw_seq (fun FK5 K5 => ?_)
  refine cw_region ?_
  refine wl_val (v := .slice none 0 0) (fun ρ e => ex_assign (e _ _ rfl)) rfl rfl ?_
  refine wl_nil ?_
  refine xw_next K5 ?_
  refine cw_seq (fun FK6 K6 => ?_)
  refine cw_seq (fun FK7 K7 => ?_)
  refine cw_region ?_
  refine wl_val (v := .int .i64 0) (fun ρ e => ex_assign (e _ _ rfl)) rfl rfl ?_
  refine wl_nil ?_
  refine xw_next K7 ?_
  refine cw_block ?_
  have O8 : Own (zone (refE f R c D L vs ++ [inE DI (.slice AI ins.length cI) ins])) W W [.row (.slice none 0 0) 3 1 0 (intCs []), .blk f 63 #[.slice R L.length c], .row (.slice R L.length c) 38 3 L.length (gcells L vs), .ro D (Ins D L vs), .ro DI (fun w => IntsD DI w (.slice AI ins.length cI) ins)] := O0.nilrow 3 1
  refine cw_loop (ι := Nat × Option Addr × Nat × Nat × List Int) (fun q => [(0, .pointer (some ⟨f, 0, none⟩)), (1, .int .i64 4), (2, .slice AI ins.length cI), (7, .int .i64 1), (8, .int .i64 0), (9, .slice q.2.1 q.2.2.2.1 q.2.2.1), (10, .int .i64 (q.1 : Int))]) (fun q X => (q.1 ≤ ins.length) ∧ (q.2.2.2.1 = q.2.2.2.2.length) ∧ (q.2.2.2.1 ≤ q.1) ∧ (∀ x ∈ q.2.2.2.2, 0 ≤ x ∧ x < (L.length : Int)) ∧ (manyGo L 1 0 ins [] = manyGo L 1 0 (ins.drop q.1) q.2.2.2.2) ∧ Own (zone (refE f R c D L vs ++ [inE DI (.slice AI ins.length cI) ins])) W X [.row (.slice q.2.1 q.2.2.2.1 q.2.2.1) 3 1 q.2.2.2.1 (intCs q.2.2.2.2), .blk f 63 #[.slice R L.length c], .row (.slice R L.length c) 38 3 L.length (gcells L vs), .ro D (Ins D L vs), .ro DI (fun w => IntsD DI w (.slice AI ins.length cI) ins)]) (fun q => ins.length - q.1) (0, none, 0, 0, []) ⟨Nat.zero_le _, rfl, Nat.zero_le _, (fun x hx => absurd hx (List.not_mem_nil)), rfl, O8⟩ ⟨rfl, rfl, rfl, rfl, rfl, rfl, rfl, trivial⟩ (fun q w9 hJ F10 K11 => ?_)
  obtain ⟨k, A, cA, n, l⟩ := q
  obtain ⟨hk0, hn, hnk, hl1, hgo, O12⟩ := hJ
  dsimp only at hk0 hn hnk hl1 hgo O12 ⊢
  by_cases hk : k < ins.length
  · obtain ⟨x, hxk, hdr, hxm⟩ := drop_cons hk
    have hxL := hin x hxm
    obtain ⟨bI, oI, cJ, hbI⟩ := hVf (by omega)
    refine cw_seq (fun FK13 K13 => ?_)
    refine cw_seq (fun FK14 K14 => ?_)
    refine cw_region ?_
    refine wl_val (v := .int .i64 (k : Int)) (fun ρ e => ex_move (e _ _ rfl)) rfl rfl ?_
    refine wl_val (v := .slice AI ins.length cI) (fun ρ e => ex_move (e _ _ rfl)) rfl rfl ?_
    refine wl_val (v := .int .i64 ((ins.length : Nat) : Int)) (fun ρ e => ex_len el36 (e _ _ rfl)) rfl rfl ?_
    refine wl_val (v := .bool true) (fun ρ e => ex_cmp (u := (k : Int)) (v := ((ins.length : Nat) : Int)) (e _ _ rfl) (e _ _ rfl) (lss1 (by omega))) rfl rfl ?_
    refine wl_nil ?_
    refine xw_next K14 ?_
    refine cw_true rfl ?_
    refine cw_skip ?_
    refine xw_next K13 ?_
    refine cw_seq (fun FK15 K15 => ?_)
    refine cw_block ?_
    refine cw_seq (fun FK16 K16 => ?_)
    refine cw_seq (fun FK17 K17 => ?_)
    refine cw_region ?_
    refine wl_val (v := .pointer (some ⟨f, 0, none⟩)) (fun ρ e => ex_move (e _ _ rfl)) rfl rfl ?_
    refine wl_val (v := .slice AI ins.length cI) (fun ρ e => ex_move (e _ _ rfl)) rfl rfl ?_
    refine wl_val (v := .int .i64 (k : Int)) (fun ρ e => ex_move (e _ _ rfl)) rfl rfl ?_
    refine wl_val (v := .pointer (some ⟨bI, oI + k, none⟩)) (fun ρ e => ex_idx (q := oI + k) (o := oI) (i := k) el36 ((e _ _ rfl).trans hbI) (e _ _ rfl) hk (by omega)) rfl rfl ?_
    refine wl_val (v := .int .i64 x) (fun ρ e => ex_load1 ty3 (e _ _ rfl) (IntsD.cellq ((hbI ▸ (O12.ro 4 rfl)) : IntsD DI _ (.slice (some ⟨bI, oI, none⟩) ins.length cJ) ins) hxk)) rfl rfl ?_
    refine wl_val (v := .int .i64 0) (fun ρ e => ex_move (e _ _ rfl)) rfl rfl ?_
    by_cases c18 : kindAt L x = 0
    · skip
      refine wl_call (args := [.pointer (some ⟨f, 0, none⟩), .int .i64 x, .int .i64 0]) in_83 rfl rfl rfl ?_
      refine (ris1 (f := f) (R := R) (c := c) (D := D) (L := L) (vs := vs) (rest := [.row (.slice A n cA) 3 1 n (intCs l), .ro DI (fun w => IntsD DI w (.slice AI ins.length cI) ins)]) (O12.re [1, 2, 3, 0, 4] rfl : Own (zone (refE f R c D L vs ++ [inE DI (.slice AI ins.length cI) ins])) W w9 [.blk f 63 #[.slice R L.length c], .row (.slice R L.length c) 38 3 L.length (gcells L vs), .ro D (Ins D L vs), .row (.slice A n cA) 3 1 n (intCs l), .ro DI (fun w => IntsD DI w (.slice AI ins.length cI) ins)]) hxL c18).mono ?_
      rintro _ w19 ⟨rfl, hb20⟩
      have O21 : Own (zone (refE f R c D L vs ++ [inE DI (.slice AI ins.length cI) ins])) W w19 [.row (.slice A n cA) 3 1 n (intCs l), .blk f 63 #[.slice R L.length c], .row (.slice R L.length c) 38 3 L.length (gcells L vs), .ro D (Ins D L vs), .ro DI (fun w => IntsD DI w (.slice AI ins.length cI) ins)] := O12.below hb20
      refine ⟨_, rfl, ?_⟩
      refine wl_nil ?_
      refine xw_next K17 ?_
      refine cw_true rfl ?_
      refine cw_seq (fun FK22 K22 => ?_)
      refine cw_region ?_
      refine wl_val (v := .pointer (some ⟨f, 0, none⟩)) (fun ρ e => ex_move (e _ _ rfl)) rfl rfl ?_
      refine wl_val (v := .int .i64 0) (fun ρ e => ex_move (e _ _ rfl)) rfl rfl ?_
      refine wl_call (args := [.pointer (some ⟨f, 0, none⟩), .int .i64 0, .int .i64 0, .slice none 0 0]) in_72 rfl rfl rfl ?_
      have O23 : Own (zone (refE f R c D L vs ++ [inE DI (.slice AI ins.length cI) ins])) W w19 [.ro (fun _ => False) (fun w => IntsD (fun _ => False) w (.slice none 0 0) ([])), .row (.slice A n cA) 3 1 n (intCs l), .blk f 63 #[.slice R L.length c], .row (.slice R L.length c) 38 3 L.length (gcells L vs), .ro D (Ins D L vs), .ro DI (fun w => IntsD DI w (.slice AI ins.length cI) ins)] := O21.nilin
      refine (call_rfind (f := f) (R := R) (c := c) (D := D) (L := L) (vs := vs) (D2 := (fun _ => False)) (V := .slice none 0 0) (g := ⟨0, 0, []⟩) (rest := [.row (.slice A n cA) 3 1 n (intCs l), .ro DI (fun w => IntsD DI w (.slice AI ins.length cI) ins)]) (O23.re [2, 3, 4, 0, 1, 5] rfl : Own (zone (refE f R c D L vs ++ [inE DI (.slice AI ins.length cI) ins])) W w19 [.blk f 63 #[.slice R L.length c], .row (.slice R L.length c) 38 3 L.length (gcells L vs), .ro D (Ins D L vs), .ro (fun _ => False) (fun w => IntsD (fun _ => False) w (.slice none 0 0) ([])), .row (.slice A n cA) 3 1 n (intCs l), .ro DI (fun w => IntsD DI w (.slice AI ins.length cI) ins)]) ok (Nat.le_of_ble_eq_true rfl) hL).mono ?_
      rintro _ w24 ⟨R25, c26, D27, vs28, rfl, O29⟩
      refine ⟨_, rfl, ?_⟩
      refine wl_val (v := .int .i64 ((findG L ⟨0, 0, []⟩).2)) (fun ρ e => ex_assign (e _ _ rfl)) rfl rfl ?_
      refine wl_nil ?_
      refine xw_next K22 ?_
      refine cw_ret ?_
      refine xw_past (by intro h; cases h) ?_
      refine xw_blockret ?_
      refine xw_past (by intro h; cases h) ?_
      refine xw_past (by intro h; cases h) ?_
      refine xw_blockret ?_
      refine xw_past (by intro h; cases h) ?_
      refine xw_ret (v := .int .i64 ((findG L ⟨0, 0, []⟩).2)) (fun T hT => res1 rfl T _ (hT 6 _ rfl)) ?_
      exact RPost.eq ⟨_, _, _, _, rfl, (O29.re [0, 1, 2] rfl : Own (zone (refE f R c D L vs ++ [inE DI (.slice AI ins.length cI) ins])) W w24 [.blk f 63 #[.slice R25 (((findG L ⟨0, 0, []⟩).1).length) c26], .row (.slice R25 (((findG L ⟨0, 0, []⟩).1).length) c26) 38 3 (((findG L ⟨0, 0, []⟩).1).length) (gcells ((findG L ⟨0, 0, []⟩).1) vs28), .ro D27 (Ins D27 ((findG L ⟨0, 0, []⟩).1) vs28)])⟩ (by rw [manyG_and, hgo, hdr, manyGo, if_pos c18]; exact (find_atI hd hxL (false_gate hw hxL c18)).symm)
    · skip
      refine wl_call (args := [.pointer (some ⟨f, 0, none⟩), .int .i64 x, .int .i64 0]) in_83 rfl rfl rfl ?_
      refine (ris0 (f := f) (R := R) (c := c) (D := D) (L := L) (vs := vs) (rest := [.row (.slice A n cA) 3 1 n (intCs l), .ro DI (fun w => IntsD DI w (.slice AI ins.length cI) ins)]) (O12.re [1, 2, 3, 0, 4] rfl : Own (zone (refE f R c D L vs ++ [inE DI (.slice AI ins.length cI) ins])) W w9 [.blk f 63 #[.slice R L.length c], .row (.slice R L.length c) 38 3 L.length (gcells L vs), .ro D (Ins D L vs), .row (.slice A n cA) 3 1 n (intCs l), .ro DI (fun w => IntsD DI w (.slice AI ins.length cI) ins)]) hxL c18).mono ?_
      rintro _ w30 ⟨rfl, hb31⟩
      have O32 : Own (zone (refE f R c D L vs ++ [inE DI (.slice AI ins.length cI) ins])) W w30 [.row (.slice A n cA) 3 1 n (intCs l), .blk f 63 #[.slice R L.length c], .row (.slice R L.length c) 38 3 L.length (gcells L vs), .ro D (Ins D L vs), .ro DI (fun w => IntsD DI w (.slice AI ins.length cI) ins)] := O12.below hb31
      refine ⟨_, rfl, ?_⟩
      refine wl_nil ?_
      refine xw_next K17 ?_
      refine cw_false rfl ?_
      refine cw_skip ?_
      refine xw_next K16 ?_
      refine cw_seq (fun FK33 K33 => ?_)
      refine cw_region ?_
      refine wl_val (v := .pointer (some ⟨f, 0, none⟩)) (fun ρ e => ex_move (e _ _ rfl)) rfl rfl ?_
      refine wl_val (v := .slice AI ins.length cI) (fun ρ e => ex_move (e _ _ rfl)) rfl rfl ?_
      refine wl_val (v := .int .i64 (k : Int)) (fun ρ e => ex_move (e _ _ rfl)) rfl rfl ?_
      refine wl_val (v := .pointer (some ⟨bI, oI + k, none⟩)) (fun ρ e => ex_idx (q := oI + k) (o := oI) (i := k) el36 ((e _ _ rfl).trans hbI) (e _ _ rfl) hk (by omega)) rfl rfl ?_
      refine wl_val (v := .int .i64 x) (fun ρ e => ex_load1 ty3 (e _ _ rfl) (IntsD.cellq ((hbI ▸ (O32.ro 4 rfl)) : IntsD DI _ (.slice (some ⟨bI, oI, none⟩) ins.length cJ) ins) hxk)) rfl rfl ?_
      refine wl_val (v := .int .i64 1) (fun ρ e => ex_move (e _ _ rfl)) rfl rfl ?_
      by_cases c34 : kindAt L x = 1
      · skip
        refine wl_call (args := [.pointer (some ⟨f, 0, none⟩), .int .i64 x, .int .i64 1]) in_83 rfl rfl rfl ?_
        refine (ris1 (f := f) (R := R) (c := c) (D := D) (L := L) (vs := vs) (rest := [.row (.slice A n cA) 3 1 n (intCs l), .ro DI (fun w => IntsD DI w (.slice AI ins.length cI) ins)]) (O32.re [1, 2, 3, 0, 4] rfl : Own (zone (refE f R c D L vs ++ [inE DI (.slice AI ins.length cI) ins])) W w30 [.blk f 63 #[.slice R L.length c], .row (.slice R L.length c) 38 3 L.length (gcells L vs), .ro D (Ins D L vs), .row (.slice A n cA) 3 1 n (intCs l), .ro DI (fun w => IntsD DI w (.slice AI ins.length cI) ins)]) hxL c34).mono ?_
        rintro _ w35 ⟨rfl, hb36⟩
        have O37 : Own (zone (refE f R c D L vs ++ [inE DI (.slice AI ins.length cI) ins])) W w35 [.row (.slice A n cA) 3 1 n (intCs l), .blk f 63 #[.slice R L.length c], .row (.slice R L.length c) 38 3 L.length (gcells L vs), .ro D (Ins D L vs), .ro DI (fun w => IntsD DI w (.slice AI ins.length cI) ins)] := O32.below hb36
        refine ⟨_, rfl, ?_⟩
        refine wl_val (v := .bool false) (fun ρ e => ex_lnot (b := true) (e _ _ rfl)) rfl rfl ?_
        refine wl_val (v := .bool false) (fun ρ e => ex_move (e _ _ rfl)) rfl rfl ?_
        refine wl_skip rfl rfl ?_
        refine wl_skip rfl rfl ?_
        refine wl_skip rfl rfl ?_
        refine wl_skip rfl rfl ?_
        refine wl_skip rfl rfl ?_
        refine wl_skip rfl rfl ?_
        refine wl_skip rfl rfl ?_
        refine wl_val (v := .bool false) (fun ρ e => ex_pick0 (e _ _ rfl) (e _ _ rfl)) rfl rfl ?_
        refine wl_nil ?_
        refine xw_next K33 ?_
        refine cw_false rfl ?_
        refine cw_skip ?_
        refine xw_block ?_
        refine xw_next K15 ?_
        refine cw_region ?_
        refine wl_val (v := .int .i64 (k : Int)) (fun ρ e => ex_move (e _ _ rfl)) rfl rfl ?_
        refine wl_val (v := .int .i64 ((k + 1 : Nat) : Int)) (fun ρ e => ex_arith (k := .i64) (u := (k : Int)) (v := 1) (e _ _ rfl) (e _ _ rfl) (congrArg some ((congrArg _ (by omega)).trans (wrap_in (u := ((k + 1 : Nat) : Int)) (by omega) (by omega))))) rfl rfl ?_
        refine wl_val (v := .int .i64 ((k + 1 : Nat) : Int)) (fun ρ e => ex_assign (e _ _ rfl)) rfl rfl ?_
        refine wl_nil ?_
        refine xw_round K11 (k + 1, A, cA, n, l) (by show ins.length - (k + 1) < ins.length - k; omega) ⟨(by show k + 1 ≤ _; omega), hn, (by show n ≤ k + 1; omega), hl1, (by show _ = manyGo L 1 0 (ins.drop (k + 1)) l; rw [hgo, hdr, manyGo, if_neg c18, if_neg (fun h => h.1 c34)]), O37⟩ ⟨rfl, rfl, rfl, rfl, rfl, rfl, rfl, trivial⟩
      · skip
        refine wl_call (args := [.pointer (some ⟨f, 0, none⟩), .int .i64 x, .int .i64 1]) in_83 rfl rfl rfl ?_
        refine (ris0 (f := f) (R := R) (c := c) (D := D) (L := L) (vs := vs) (rest := [.row (.slice A n cA) 3 1 n (intCs l), .ro DI (fun w => IntsD DI w (.slice AI ins.length cI) ins)]) (O32.re [1, 2, 3, 0, 4] rfl : Own (zone (refE f R c D L vs ++ [inE DI (.slice AI ins.length cI) ins])) W w30 [.blk f 63 #[.slice R L.length c], .row (.slice R L.length c) 38 3 L.length (gcells L vs), .ro D (Ins D L vs), .row (.slice A n cA) 3 1 n (intCs l), .ro DI (fun w => IntsD DI w (.slice AI ins.length cI) ins)]) hxL c34).mono ?_
        rintro _ w38 ⟨rfl, hb39⟩
        have O40 : Own (zone (refE f R c D L vs ++ [inE DI (.slice AI ins.length cI) ins])) W w38 [.row (.slice A n cA) 3 1 n (intCs l), .blk f 63 #[.slice R L.length c], .row (.slice R L.length c) 38 3 L.length (gcells L vs), .ro D (Ins D L vs), .ro DI (fun w => IntsD DI w (.slice AI ins.length cI) ins)] := O32.below hb39
        refine ⟨_, rfl, ?_⟩
        refine wl_val (v := .bool true) (fun ρ e => ex_lnot (b := false) (e _ _ rfl)) rfl rfl ?_
        refine wl_val (v := .bool true) (fun ρ e => ex_move (e _ _ rfl)) rfl rfl ?_
        refine wl_val (v := .slice A n cA) (fun ρ e => ex_move (e _ _ rfl)) rfl rfl ?_
        refine wl_val (v := .slice AI ins.length cI) (fun ρ e => ex_move (e _ _ rfl)) rfl rfl ?_
        refine wl_val (v := .int .i64 (k : Int)) (fun ρ e => ex_move (e _ _ rfl)) rfl rfl ?_
        refine wl_val (v := .pointer (some ⟨bI, oI + k, none⟩)) (fun ρ e => ex_idx (q := oI + k) (o := oI) (i := k) el36 ((e _ _ rfl).trans hbI) (e _ _ rfl) hk (by omega)) rfl rfl ?_
        refine wl_val (v := .int .i64 x) (fun ρ e => ex_load1 ty3 (e _ _ rfl) (IntsD.cellq ((hbI ▸ (O40.ro 4 rfl)) : IntsD DI _ (.slice (some ⟨bI, oI, none⟩) ins.length cJ) ins) hxk)) rfl rfl ?_
        refine wl_call (args := [.slice A n cA, .int .i64 x]) in_84 rfl rfl rfl ?_
        refine (times_n hn (x := x) ((IntsD.of_row (l := l) (O40.row 0 rfl)).V (fun k hk => (World.ownsRow.lt (O40.row 0 rfl) k hk).2)) (by omega)).mono ?_
        rintro _ w41 ⟨rfl, hb42⟩
        have O43 : Own (zone (refE f R c D L vs ++ [inE DI (.slice AI ins.length cI) ins])) W w41 [.row (.slice A n cA) 3 1 n (intCs l), .blk f 63 #[.slice R L.length c], .row (.slice R L.length c) 38 3 L.length (gcells L vs), .ro D (Ins D L vs), .ro DI (fun w => IntsD DI w (.slice AI ins.length cI) ins)] := O40.below hb42
        refine ⟨_, rfl, ?_⟩
        by_cases c44 : ((timesOf x l : Nat) : Int) = 0
        · skip
          refine wl_val (v := .bool true) (fun ρ e => ex_cmp (u := ((timesOf x l : Nat) : Int)) (v := 0) (e _ _ rfl) (e _ _ rfl) (eql1 (by omega))) rfl rfl ?_
          refine wl_val (v := .bool true) (fun ρ e => ex_pick1 (e _ _ rfl) (e _ _ rfl)) rfl rfl ?_
          refine wl_nil ?_
          refine xw_next K33 ?_
          refine cw_true rfl ?_
          refine cw_region ?_
          refine wl_val (v := .slice A n cA) (fun ρ e => ex_move (e _ _ rfl)) rfl rfl ?_
          refine wl_val (v := .slice AI ins.length cI) (fun ρ e => ex_move (e _ _ rfl)) rfl rfl ?_
          refine wl_val (v := .int .i64 (k : Int)) (fun ρ e => ex_move (e _ _ rfl)) rfl rfl ?_
          refine wl_val (v := .pointer (some ⟨bI, oI + k, none⟩)) (fun ρ e => ex_idx (q := oI + k) (o := oI) (i := k) el36 ((e _ _ rfl).trans hbI) (e _ _ rfl) hk (by omega)) rfl rfl ?_
          refine wl_val (v := .int .i64 x) (fun ρ e => ex_load1 ty3 (e _ _ rfl) (IntsD.cellq ((hbI ▸ (O43.ro 4 rfl)) : IntsD DI _ (.slice (some ⟨bI, oI, none⟩) ins.length cJ) ins) hxk)) rfl rfl ?_
          obtain ⟨g45, w46, r47, O48, hg49, hs50⟩ := own_slice O43 el36 ze3 1 [(0, .int .i64 x)] (cs := #[.int .i64 x]) (by decide) (by kernel_rfl)
          refine wl_val (v := .slice (some ⟨g45, 0, none⟩) 1 1) (fun ρ e => r47 ρ _ _ _ _ _ _ (e.parts rfl)) rfl rfl ?_
          obtain ⟨A51, c52, w53, r54, O55, hz56, hc57⟩ := own_app1 (O48.re [1, 0, 2, 3, 4, 5] rfl : Own (zone (refE f R c D L vs ++ [inE DI (.slice AI ins.length cI) ins])) W w46 [.row (.slice A n cA) 3 1 n (intCs l), .blk g45 3 #[.int .i64 x], .blk f 63 #[.slice R L.length c], .row (.slice R L.length c) 38 3 L.length (gcells L vs), .ro D (Ins D L vs), .ro DI (fun w => IntsD DI w (.slice AI ins.length cI) ins)]) ap36 ((O48.re [1, 0, 2, 3, 4, 5] rfl : Own (zone (refE f R c D L vs ++ [inE DI (.slice AI ins.length cI) ins])) W w46 [.row (.slice A n cA) 3 1 n (intCs l), .blk g45 3 #[.int .i64 x], .blk f 63 #[.slice R L.length c], .row (.slice R L.length c) 38 3 L.length (gcells L vs), .ro D (Ins D L vs), .ro DI (fun w => IntsD DI w (.slice AI ins.length cI) ins)]).blk 1 rfl) (cells := [.int .i64 x]) rfl rfl (by omega) (by omega) (ys := (intCs (l ++ [x]))) (intCs_snoc l x)
          refine wl_val (v := .slice A51 (n + 1) c52) (fun ρ e => r54 ρ _ _ _ _ _ _ _ (e _ _ rfl) (e _ _ rfl)) rfl rfl ?_
          refine wl_val (v := .slice A51 (n + 1) c52) (fun ρ e => ex_assign (e _ _ rfl)) rfl rfl ?_
          refine wl_nil ?_
          refine xw_block ?_
          refine xw_next K15 ?_
          refine cw_region ?_
          refine wl_val (v := .int .i64 (k : Int)) (fun ρ e => ex_move (e _ _ rfl)) rfl rfl ?_
          refine wl_val (v := .int .i64 ((k + 1 : Nat) : Int)) (fun ρ e => ex_arith (k := .i64) (u := (k : Int)) (v := 1) (e _ _ rfl) (e _ _ rfl) (congrArg some ((congrArg _ (by omega)).trans (wrap_in (u := ((k + 1 : Nat) : Int)) (by omega) (by omega))))) rfl rfl ?_
          refine wl_val (v := .int .i64 ((k + 1 : Nat) : Int)) (fun ρ e => ex_assign (e _ _ rfl)) rfl rfl ?_
          refine wl_nil ?_
          refine xw_round K11 (k + 1, A51, c52, n + 1, l ++ [x]) (by show ins.length - (k + 1) < ins.length - k; omega) ⟨(by show k + 1 ≤ _; omega), (by show n + 1 = (l ++ [x]).length; simp [hn]), (by show n + 1 ≤ k + 1; omega), (fun y hy => (List.mem_append.1 hy).elim (hl1 y) (fun h => by rw [List.mem_singleton.1 h]; exact hxL)), (by show _ = manyGo L 1 0 (ins.drop (k + 1)) (l ++ [x]); rw [hgo, hdr, manyGo, if_neg c18, if_pos ⟨c34, (times_none c44)⟩]), (O55.re [0, 2, 3, 4, 5] rfl : Own (zone (refE f R c D L vs ++ [inE DI (.slice AI ins.length cI) ins])) W w53 [.row (.slice A51 (n + 1) c52) 3 1 (n + 1) (intCs (l ++ [x])), .blk f 63 #[.slice R L.length c], .row (.slice R L.length c) 38 3 L.length (gcells L vs), .ro D (Ins D L vs), .ro DI (fun w => IntsD DI w (.slice AI ins.length cI) ins)])⟩ ⟨rfl, rfl, rfl, rfl, rfl, rfl, rfl, trivial⟩
        · skip
          refine wl_val (v := .bool false) (fun ρ e => ex_cmp (u := ((timesOf x l : Nat) : Int)) (v := 0) (e _ _ rfl) (e _ _ rfl) (eql0 (by omega))) rfl rfl ?_
          refine wl_val (v := .bool false) (fun ρ e => ex_pick1 (e _ _ rfl) (e _ _ rfl)) rfl rfl ?_
          refine wl_nil ?_
          refine xw_next K33 ?_
          refine cw_false rfl ?_
          refine cw_skip ?_
          refine xw_block ?_
          refine xw_next K15 ?_
          refine cw_region ?_
          refine wl_val (v := .int .i64 (k : Int)) (fun ρ e => ex_move (e _ _ rfl)) rfl rfl ?_
          refine wl_val (v := .int .i64 ((k + 1 : Nat) : Int)) (fun ρ e => ex_arith (k := .i64) (u := (k : Int)) (v := 1) (e _ _ rfl) (e _ _ rfl) (congrArg some ((congrArg _ (by omega)).trans (wrap_in (u := ((k + 1 : Nat) : Int)) (by omega) (by omega))))) rfl rfl ?_
          refine wl_val (v := .int .i64 ((k + 1 : Nat) : Int)) (fun ρ e => ex_assign (e _ _ rfl)) rfl rfl ?_
          refine wl_nil ?_
          refine xw_round K11 (k + 1, A, cA, n, l) (by show ins.length - (k + 1) < ins.length - k; omega) ⟨(by show k + 1 ≤ _; omega), hn, (by show n ≤ k + 1; omega), hl1, (by show _ = manyGo L 1 0 (ins.drop (k + 1)) l; rw [hgo, hdr, manyGo, if_neg c18, if_neg (fun h => h.2 (times_some c44))]), O43⟩ ⟨rfl, rfl, rfl, rfl, rfl, rfl, rfl, trivial⟩
  · have hke : k = ins.length := by omega
    rw [List.drop_eq_nil_of_le (by omega)] at hgo
    simp only [manyGo] at hgo
    refine cw_seq (fun FK58 K58 => ?_)
    refine cw_seq (fun FK59 K59 => ?_)
    refine cw_region ?_
    refine wl_val (v := .int .i64 (k : Int)) (fun ρ e => ex_move (e _ _ rfl)) rfl rfl ?_
    refine wl_val (v := .slice AI ins.length cI) (fun ρ e => ex_move (e _ _ rfl)) rfl rfl ?_
    refine wl_val (v := .int .i64 ((ins.length : Nat) : Int)) (fun ρ e => ex_len el36 (e _ _ rfl)) rfl rfl ?_
    refine wl_val (v := .bool false) (fun ρ e => ex_cmp (u := (k : Int)) (v := ((ins.length : Nat) : Int)) (e _ _ rfl) (e _ _ rfl) (lss0 (by omega))) rfl rfl ?_
    refine wl_nil ?_
    refine xw_next K59 ?_
    refine cw_false rfl ?_
    refine cw_exit ?_
    refine xw_past (by intro h; cases h) ?_
    refine xw_past (by intro h; cases h) ?_
    refine xw_here ?_
    refine xw_next K6 ?_
    refine cw_seq (fun FK60 K60 => ?_)
    refine cw_seq (fun FK61 K61 => ?_)
    rcases l with _ | ⟨x, _ | ⟨x2, l2⟩⟩
    · have hn' : n = 0 := hn
      refine cw_region ?_
      refine wl_val (v := .slice A n cA) (fun ρ e => ex_move (e _ _ rfl)) rfl rfl ?_
      refine wl_val (v := .int .i64 (n : Int)) (fun ρ e => ex_len el36 (e _ _ rfl)) rfl rfl ?_
      refine wl_val (v := .bool true) (fun ρ e => ex_cmp (u := (n : Int)) (v := 0) (e _ _ rfl) (e _ _ rfl) (eql1 (by omega))) rfl rfl ?_
      refine wl_nil ?_
      refine xw_next K61 ?_
      refine cw_true rfl ?_
      refine cw_seq (fun FK62 K62 => ?_)
      refine cw_region ?_
      refine wl_val (v := .pointer (some ⟨f, 0, none⟩)) (fun ρ e => ex_move (e _ _ rfl)) rfl rfl ?_
      refine wl_val (v := .int .i64 1) (fun ρ e => ex_move (e _ _ rfl)) rfl rfl ?_
      refine wl_call (args := [.pointer (some ⟨f, 0, none⟩), .int .i64 1, .int .i64 0, .slice none 0 0]) in_72 rfl rfl rfl ?_
      have O63 : Own (zone (refE f R c D L vs ++ [inE DI (.slice AI ins.length cI) ins])) W w9 [.ro (fun _ => False) (fun w => IntsD (fun _ => False) w (.slice none 0 0) ([])), .row (.slice A n cA) 3 1 n (intCs []), .blk f 63 #[.slice R L.length c], .row (.slice R L.length c) 38 3 L.length (gcells L vs), .ro D (Ins D L vs), .ro DI (fun w => IntsD DI w (.slice AI ins.length cI) ins)] := O12.nilin
      refine (call_rfind (f := f) (R := R) (c := c) (D := D) (L := L) (vs := vs) (D2 := (fun _ => False)) (V := .slice none 0 0) (g := ⟨1, 0, []⟩) (rest := [.row (.slice A n cA) 3 1 n (intCs []), .ro DI (fun w => IntsD DI w (.slice AI ins.length cI) ins)]) (O63.re [2, 3, 4, 0, 1, 5] rfl : Own (zone (refE f R c D L vs ++ [inE DI (.slice AI ins.length cI) ins])) W w9 [.blk f 63 #[.slice R L.length c], .row (.slice R L.length c) 38 3 L.length (gcells L vs), .ro D (Ins D L vs), .ro (fun _ => False) (fun w => IntsD (fun _ => False) w (.slice none 0 0) ([])), .row (.slice A n cA) 3 1 n (intCs []), .ro DI (fun w => IntsD DI w (.slice AI ins.length cI) ins)]) ok (Nat.le_of_ble_eq_true rfl) hL).mono ?_
      rintro _ w64 ⟨R65, c66, D67, vs68, rfl, O69⟩
      refine ⟨_, rfl, ?_⟩
      refine wl_val (v := .int .i64 ((findG L ⟨1, 0, []⟩).2)) (fun ρ e => ex_assign (e _ _ rfl)) rfl rfl ?_
      refine wl_nil ?_
      refine xw_next K62 ?_
      refine cw_ret ?_
      refine xw_past (by intro h; cases h) ?_
      refine xw_ret (v := .int .i64 ((findG L ⟨1, 0, []⟩).2)) (fun T hT => res1 rfl T _ (hT 6 _ rfl)) ?_
      exact RPost.eq ⟨_, _, _, _, rfl, (O69.re [0, 1, 2] rfl : Own (zone (refE f R c D L vs ++ [inE DI (.slice AI ins.length cI) ins])) W w64 [.blk f 63 #[.slice R65 (((findG L ⟨1, 0, []⟩).1).length) c66], .row (.slice R65 (((findG L ⟨1, 0, []⟩).1).length) c66) 38 3 (((findG L ⟨1, 0, []⟩).1).length) (gcells ((findG L ⟨1, 0, []⟩).1) vs68), .ro D67 (Ins D67 ((findG L ⟨1, 0, []⟩).1) vs68)])⟩ (by rw [manyG_and, hgo])
    · have hn' : n = 1 := hn
      obtain ⟨gl, rfl⟩ := O12.rowshape 0 rfl (by omega)
      refine cw_region ?_
      refine wl_val (v := .slice (some ⟨gl, 0, none⟩) n cA) (fun ρ e => ex_move (e _ _ rfl)) rfl rfl ?_
      refine wl_val (v := .int .i64 (n : Int)) (fun ρ e => ex_len el36 (e _ _ rfl)) rfl rfl ?_
      refine wl_val (v := .bool false) (fun ρ e => ex_cmp (u := (n : Int)) (v := 0) (e _ _ rfl) (e _ _ rfl) (eql0 (by omega))) rfl rfl ?_
      refine wl_nil ?_
      refine xw_next K61 ?_
      refine cw_false rfl ?_
      refine cw_skip ?_
      refine xw_next K60 ?_
      refine cw_seq (fun FK70 K70 => ?_)
      refine cw_seq (fun FK71 K71 => ?_)
      refine cw_region ?_
      refine wl_val (v := .slice (some ⟨gl, 0, none⟩) n cA) (fun ρ e => ex_move (e _ _ rfl)) rfl rfl ?_
      refine wl_val (v := .int .i64 (n : Int)) (fun ρ e => ex_len el36 (e _ _ rfl)) rfl rfl ?_
      refine wl_val (v := .bool true) (fun ρ e => ex_cmp (u := (n : Int)) (v := 1) (e _ _ rfl) (e _ _ rfl) (eql1 (by omega))) rfl rfl ?_
      refine wl_nil ?_
      refine xw_next K71 ?_
      refine cw_true rfl ?_
      refine cw_seq (fun FK72 K72 => ?_)
      refine cw_region ?_
      refine wl_val (v := .slice (some ⟨gl, 0, none⟩) n cA) (fun ρ e => ex_move (e _ _ rfl)) rfl rfl ?_
      refine wl_val (v := .pointer (some ⟨gl, 0, none⟩)) (fun ρ e => ex_idx (q := 0) (i := 0) el36 (e _ _ rfl) (e _ _ rfl) (by omega) (by omega)) rfl rfl ?_
      refine wl_val (v := .int .i64 x) (fun ρ e => ex_load1 ty3 (e _ _ rfl) (rowcell (O12.row 0 rfl) (j := 0) rfl)) rfl rfl ?_
      refine wl_val (v := .int .i64 x) (fun ρ e => ex_assign (e _ _ rfl)) rfl rfl ?_
      refine wl_nil ?_
      refine xw_next K72 ?_
      refine cw_ret ?_
      refine xw_past (by intro h; cases h) ?_
      refine xw_ret (v := .int .i64 x) (fun T hT => res1 rfl T _ (hT 6 _ rfl)) ?_
      exact RPost.eq (q' := (L, x)) ⟨_, _, _, _, rfl, (O12.re [1, 2, 3] rfl : Own (zone (refE f R c D L vs ++ [inE DI (.slice AI ins.length cI) ins])) W w9 [.blk f 63 #[.slice R L.length c], .row (.slice R L.length c) 38 3 L.length (gcells L vs), .ro D (Ins D L vs)])⟩ (by rw [manyG_and, hgo])
    · have hn' : n = l2.length + 2 := hn
      refine cw_region ?_
      refine wl_val (v := .slice A n cA) (fun ρ e => ex_move (e _ _ rfl)) rfl rfl ?_
      refine wl_val (v := .int .i64 (n : Int)) (fun ρ e => ex_len el36 (e _ _ rfl)) rfl rfl ?_
      refine wl_val (v := .bool false) (fun ρ e => ex_cmp (u := (n : Int)) (v := 0) (e _ _ rfl) (e _ _ rfl) (eql0 (by omega))) rfl rfl ?_
      refine wl_nil ?_
      refine xw_next K61 ?_
      refine cw_false rfl ?_
      refine cw_skip ?_
      refine xw_next K60 ?_
      refine cw_seq (fun FK73 K73 => ?_)
      refine cw_seq (fun FK74 K74 => ?_)
      refine cw_region ?_
      refine wl_val (v := .slice A n cA) (fun ρ e => ex_move (e _ _ rfl)) rfl rfl ?_
      refine wl_val (v := .int .i64 (n : Int)) (fun ρ e => ex_len el36 (e _ _ rfl)) rfl rfl ?_
      refine wl_val (v := .bool false) (fun ρ e => ex_cmp (u := (n : Int)) (v := 1) (e _ _ rfl) (e _ _ rfl) (eql0 (by omega))) rfl rfl ?_
      refine wl_nil ?_
      refine xw_next K74 ?_
      refine cw_false rfl ?_
      refine cw_skip ?_
      refine xw_next K73 ?_
      refine cw_seq (fun FK75 K75 => ?_)
      refine cw_region ?_
      refine wl_val (v := .pointer (some ⟨f, 0, none⟩)) (fun ρ e => ex_move (e _ _ rfl)) rfl rfl ?_
      refine wl_val (v := .int .i64 4) (fun ρ e => ex_move (e _ _ rfl)) rfl rfl ?_
      refine wl_val (v := .slice A n cA) (fun ρ e => ex_move (e _ _ rfl)) rfl rfl ?_
      refine wl_call (args := [.pointer (some ⟨f, 0, none⟩), .int .i64 4, .int .i64 0, .slice A n cA]) in_72 rfl rfl rfl ?_
      have O76 : Own (zone (refE f R c D L vs ++ [inE DI (.slice AI ins.length cI) ins])) W w9 [.ro (fun k => (Value.ownBlock (.slice A n cA)) = some k) (fun w => IntsD (fun k => (Value.ownBlock (.slice A n cA)) = some k) w (.slice A n cA) (x :: x2 :: l2)), .blk f 63 #[.slice R L.length c], .row (.slice R L.length c) 38 3 L.length (gcells L vs), .ro D (Ins D L vs), .ro DI (fun w => IntsD DI w (.slice AI ins.length cI) ins)] := Own.rowin (l := (x :: x2 :: l2)) O12
      refine (call_rfind (f := f) (R := R) (c := c) (D := D) (L := L) (vs := vs) (D2 := (fun k => (Value.ownBlock (.slice A n cA)) = some k)) (V := .slice A n cA) (g := ⟨4, 0, (x :: x2 :: l2)⟩) (rest := [.ro DI (fun w => IntsD DI w (.slice AI ins.length cI) ins)]) (O76.re [1, 2, 3, 0, 4] rfl : Own (zone (refE f R c D L vs ++ [inE DI (.slice AI ins.length cI) ins])) W w9 [.blk f 63 #[.slice R L.length c], .row (.slice R L.length c) 38 3 L.length (gcells L vs), .ro D (Ins D L vs), .ro (fun k => (Value.ownBlock (.slice A n cA)) = some k) (fun w => IntsD (fun k => (Value.ownBlock (.slice A n cA)) = some k) w (.slice A n cA) (x :: x2 :: l2)), .ro DI (fun w => IntsD DI w (.slice AI ins.length cI) ins)]) ok (show _ ≤ _ from by simp only [List.length_cons]; omega) hL).mono ?_
      rintro _ w77 ⟨R78, c79, D80, vs81, rfl, O82⟩
      refine ⟨_, rfl, ?_⟩
      refine wl_val (v := .int .i64 ((findG L ⟨4, 0, (x :: x2 :: l2)⟩).2)) (fun ρ e => ex_assign (e _ _ rfl)) rfl rfl ?_
      refine wl_nil ?_
      refine xw_next K75 ?_
      refine cw_ret ?_
      refine xw_ret (v := .int .i64 ((findG L ⟨4, 0, (x :: x2 :: l2)⟩).2)) (fun T hT => res1 rfl T _ (hT 6 _ rfl)) ?_
      exact RPost.eq ⟨_, _, _, _, rfl, (O82.re [0, 1, 2] rfl : Own (zone (refE f R c D L vs ++ [inE DI (.slice AI ins.length cI) ins])) W w77 [.blk f 63 #[.slice R78 (((findG L ⟨4, 0, (x :: x2 :: l2)⟩).1).length) c79], .row (.slice R78 (((findG L ⟨4, 0, (x :: x2 :: l2)⟩).1).length) c79) 38 3 (((findG L ⟨4, 0, (x :: x2 :: l2)⟩).1).length) (gcells ((findG L ⟨4, 0, (x :: x2 :: l2)⟩).1) vs81), .ro D80 (Ins D80 ((findG L ⟨4, 0, (x :: x2 :: l2)⟩).1) vs81)])⟩ (by rw [manyG_and, hgo])
end
end Go.Proofs.YtbemhgojfehnjaaDoor
namespace Go.Proofs.YtbemhgojfehnjaaDoor
open Go
theorem odd_times (x : Int) : ∀ l : List Int, oddIn x l = decide (timesOf x l % 2 = 1)
  | [] => rfl
  | y :: l => by
    rw [oddIn, timesOf, odd_times x l]
    by_cases e : x = y
    · subst e
      rw [decide_eq_true rfl, if_pos rfl]
      rcases Nat.mod_two_eq_zero_or_one (timesOf x l) with h | h
      · rw [decide_eq_false (by omega), decide_eq_true (by omega)]; rfl
      · rw [decide_eq_true (by omega), decide_eq_false (by omega)]; rfl
    · rw [decide_eq_false e, if_neg (fun q => e q.symm), Nat.zero_add]
      cases decide (timesOf x l % 2 = 1) <;> rfl
/-- What the reference's loop keeps. -/
structure RX (L : List Gate) (ins : List Int) (k : Nat) (odd : Int → Bool) (left : List Int) (last : Int) : Prop where
  go : xorGo L (fun x => oddIn x ins) ins [] (-1) = xorGo L odd (ins.drop k) left last
  odd : ∀ y, kindAt L y ≠ 0 → odd y = (oddIn y ins && decide (y ∉ ins.take k))
  last : last < 0 ∨ inR L last ∧ kindAt L last = 1 ∧ last ∈ ins.take k
theorem RX.start (L : List Gate) (ins : List Int) : RX L ins 0 (fun x => oddIn x ins) [] (-1) := ⟨by rw [List.drop_zero], fun y _ => by simp, .inl (by decide)⟩
theorem RX.skip {L : List Gate} {ins : List Int} {k : Nat} {odd : Int → Bool} {left : List Int} {last x : Int} (h : RX L ins k odd left last) (hk : k < ins.length) (hx : ins[k] = x) (hs : kindAt L x = 0 ∨ oddIn x ins = false ∨ x ∈ ins.take k) : RX L ins (k + 1) odd left last := by
  have htk : ins.take (k + 1) = ins.take k ++ [x] := by rw [← hx]; exact (List.take_append_getElem hk).symm
  have hdr : ins.drop k = x :: ins.drop (k + 1) := by rw [← hx]; exact List.drop_eq_getElem_cons hk
  refine ⟨?_, fun y hy => ?_, h.last.imp id (fun ⟨a, b, c⟩ => ⟨a, b, by rw [htk]; simp [c]⟩)⟩
  · rw [h.go, hdr, xorGo, if_pos]
    by_cases h0 : kindAt L x = 0
    · exact .inr h0
    · left
      rw [h.odd x h0]
      rcases hs with q | q | q
      · exact absurd q h0
      · rw [q]; rfl
      · simp [q]
  · rw [h.odd y hy, htk]
    by_cases e : y = x
    · subst e
      rcases hs with q | q | q
      · exact absurd q hy
      · rw [q]; rfl
      · simp [q]
    · simp [e]
theorem RX.take_ {N : Int} {B : Nat} {L : List Gate} (hw : wfL N B L) (hn : ND L) {ins : List Int} (hin : ∀ x ∈ ins, inR L x) {k : Nat} {odd : Int → Bool} {left : List Int} {last x : Int} (h : RX L ins k odd left last) (hk : k < ins.length) (hx : ins[k] = x) (h0 : ¬ kindAt L x = 0) (h1 : oddIn x ins = true) (h2 : x ∉ ins.take k) :
    if kindAt L x = 1 then last < 0 ∧ RX L ins (k + 1) (off odd x) left x else RX L ins (k + 1) (off odd x) (left ++ [x]) last := by
  have htk : ins.take (k + 1) = ins.take k ++ [x] := by rw [← hx]; exact (List.take_append_getElem hk).symm
  have hdr : ins.drop k = x :: ins.drop (k + 1) := by rw [← hx]; exact List.drop_eq_getElem_cons hk
  have ho : odd x = true := by rw [h.odd x h0, h1]; simp [h2]
  have hno : ¬ (odd x = false ∨ kindAt L x = 0) := by intro q; rcases q with q | q; rw [ho] at q; cases q; exact h0 q
  have hodd : ∀ y, kindAt L y ≠ 0 → off odd x y = (oddIn y ins && decide (y ∉ ins.take (k + 1))) := by
    intro y hy
    rw [htk]
    unfold off
    by_cases e : y = x
    · subst e; simp
    · rw [if_neg e, h.odd y hy]; simp [e]
  have hxr : inR L x := hin x (by rw [← hx]; exact List.getElem_mem hk)
  by_cases hk1 : kindAt L x = 1
  · rw [if_pos hk1]
    have hneg : last < 0 := by
      rcases h.last with q | ⟨a, b, c⟩
      · exact q
      · have := true_one hw hn a hxr b hk1
        rw [this] at c
        exact absurd c h2
    refine ⟨hneg, ⟨?_, hodd, .inr ⟨hxr, hk1, by rw [htk]; simp⟩⟩⟩
    rw [h.go, hdr, xorGo, if_neg hno, if_pos hk1]; rfl
  · rw [if_neg hk1]
    refine ⟨?_, hodd, h.last.imp id (fun ⟨a, b, c⟩ => ⟨a, b, by rw [htk]; simp [c]⟩)⟩
    rw [h.go, hdr, xorGo, if_neg hno, if_neg hk1]; rfl
end Go.Proofs.YtbemhgojfehnjaaDoor
