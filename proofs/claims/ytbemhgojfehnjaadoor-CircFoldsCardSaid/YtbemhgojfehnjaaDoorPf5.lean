/-
  Lemmas and contracts, joined: FoldTw Csame WorksQ Ops5 Crsame WSets4 WSets5 Sem0 WRef07 WRef07d Cworks Claw1 Claw2 FoldTw2 FoldSi.
-/
import Derived.Test.YtbemhgojfehnjaaDoorPf4
import Derived.Test.YtbemhgojfehnjaaDoorPf1
namespace Go.Proofs.YtbemhgojfehnjaaDoor
open Go
def NFL (L : List Gate) : Prop := ∀ (i : Nat) (g : Gate), L[i]? = some g → NfG L g
theorem kind_app {L : List Gate} (M : List Gate) {x : Int} (h : inR L x) : kindAt (L ++ M) x = kindAt L x := by
  unfold kindAt gateAt
  have := h.1
  have := h.2
  rw [List.getD_eq_getElem?_getD, List.getD_eq_getElem?_getD, List.getElem?_append_left (by omega)]
theorem NfG.app {L : List Gate} (M : List Gate) {g : Gate} (h : NfG L g) (hi : ∀ x ∈ g.inp, inR L x) : NfG (L ++ M) g := by
  have hk : ∀ x ∈ g.inp, kindAt (L ++ M) x = kindAt L x := fun x hx => kind_app M (hi x hx)
  refine ⟨fun e a ea => ?_, fun e => ?_, fun e => ?_, fun e a b ea => ?_, fun e a b c ea => ?_⟩
  · rw [hk a (by rw [ea]; simp)]; exact h.k3 e a ea
  · obtain ⟨a, b, c⟩ := h.k45 e
    exact ⟨a, b, fun x hx => by unfold livK; rw [hk x hx]; exact c x hx⟩
  · obtain ⟨l, t, e1, e2, e3, e4, e5⟩ := h.k6 e
    refine ⟨l, t, e1, e2, e3, fun x hx => by unfold livK; rw [hk x (by rw [e1]; simp [hx])]; exact e4 x hx, e5.imp id (fun ⟨y, h1, h2⟩ => ⟨y, h1, by rw [hk y (by rw [e1, h1]; simp)]; exact h2⟩)⟩
  · unfold livK
    rw [hk a (by rw [ea]; simp), hk b (by rw [ea]; simp)]
    exact h.k7 e a b ea
  · unfold livK
    rw [hk a (by rw [ea]; simp), hk b (by rw [ea]; simp), hk c (by rw [ea]; simp)]
    exact h.k8 e a b c ea
section
variable {N : Int} {B : Nat} {L : List Gate}
theorem wf_in (hw : wfL N B L) {i : Nat} {g : Gate} (h : L[i]? = some g) : ∀ x ∈ g.inp, inR L x := by
  intro x hx
  have := (good_parts (hw i g h).1).2.2 x hx
  have := (List.getElem?_eq_some_iff.1 h).1
  exact ⟨by omega, by omega⟩
theorem NFL.step (hw : wfL N B L) (hn : NFL L) {q : List Gate × Int} (ok : StepOk N B L q) (nf : Nf L q) : NFL q.1 := by
  rcases ok.ext with e | ⟨g', e⟩
  · rw [e]; exact hn
  · have hw' := ok.wf
    rw [e] at hw' ⊢
    intro i g hg
    rcases get_snoc hg with ⟨a, _⟩ | ⟨a, b⟩
    · exact (hn i g a).app _ (wf_in hw a)
    · subst b
      refine (nf g e).app _ (fun x hx => ?_)
      have := (good_parts (hw' i g hg).1).2.2 x hx
      exact ⟨by omega, by omega⟩
/-- Where a gate stands, it is found. -/
theorem find_at (hd : ND L) {i : Nat} {g : Gate} (h : L[i]? = some g) : findG L g = (L, (i : Int)) := by
  unfold findG
  cases e : gidx g L 0 with
  | none => exact absurd (List.mem_of_getElem? h) (gidx_none e)
  | some k =>
    obtain ⟨_, _, h3⟩ := gidx_lt e
    rw [Nat.sub_zero] at h3
    rw [hd k i g h3 h]
theorem find_atI (hd : ND L) {i : Int} (hi : inR L i) {g : Gate} (h : L[i.toNat]? = some g) : findG L g = (L, i) := by
  rw [find_at hd h]
  have := hi.1
  rw [Int.toNat_of_nonneg this]
theorem false_gate (hw : wfL N B L) {i : Int} (hi : inR L i) (h : kindAt L i = 0) : L[i.toNat]? = some ⟨0, 0, []⟩ := by
  obtain ⟨k, rfl, hk, h1, h2⟩ := gateAt_get hi
  obtain ⟨hg, _⟩ := hw k _ h2
  obtain ⟨p1, p2, p3⟩ := good_parts hg
  unfold kindAt at h
  rw [h1] at h
  rw [Int.toNat_natCast, h2]
  generalize L[k] = g at h p1 p2
  obtain ⟨kd, lt, ins⟩ := g
  simp only at h p1 p2
  subst h
  have e1 : ins.length = 0 := by simpa [allowedB] using p1
  have e2 : lt = 0 := by simpa [litGood] using p2
  rw [List.length_eq_zero_iff.1 e1, e2]
theorem or_false (hw : wfL N B L) (hd : ND L) {f r : Int} (hr : inR L r) (hf : kindAt L f = 0) : manyG L 5 [f, r, f] = (L, r) := by
  unfold manyG
  have n1 : ¬ kindAt L f = 1 := by omega
  have n2 : ∀ l : List Int, ¬ (kindAt L f ≠ 0 ∧ f ∉ l) := fun l h => h.1 hf
  simp only [if_true, manyGo]
  rw [if_neg n1, if_neg (n2 _)]
  by_cases h0 : kindAt L r = 1
  · rw [if_pos h0]
  · rw [if_neg h0]
    by_cases h1 : kindAt L r = 0
    · rw [if_neg (by intro h; exact h.1 h1), if_neg n1, if_neg (n2 _)]
      exact find_atI hd hr (false_gate hw hr h1)
    · rw [if_pos ⟨h1, by simp⟩, if_neg n1, if_neg (n2 _)]
      rfl
/-- A gate that has been looked for stands where it was found. -/
theorem find_get (hd : ND L) (g : Gate) : (findG L g).1[(findG L g).2.toNat]? = some g ∧ 0 ≤ (findG L g).2 ∧ (∃ M, (findG L g).1 = L ++ M) ∧ ND (findG L g).1 := by
  unfold findG
  cases e : gidx g L 0 with
  | none => exact ⟨by simp, by simp, ⟨[g], rfl⟩, hd.snoc (gidx_none e)⟩
  | some k =>
    obtain ⟨_, _, h3⟩ := gidx_lt e
    exact ⟨by simpa using h3, by simp, ⟨[], by simp⟩, hd⟩
theorem kind_get {i : Int} {g : Gate} (h0 : 0 ≤ i) (h : L[i.toNat]? = some g) : kindAt L i = g.kind ∧ gateAt L i = g ∧ inR L i := by
  have h1 : gateAt L i = g := by
    unfold gateAt
    rw [List.getD_eq_getElem?_getD, h]; rfl
  have := (List.getElem?_eq_some_iff.1 h).1
  exact ⟨by unfold kindAt; rw [h1], h1, h0, by omega⟩
theorem not_get {i : Int} {g : Gate} (h0 : 0 ≤ i) (h : L[i.toNat]? = some g) : notG L i = if g.kind = 0 then findG L ⟨1, 0, []⟩ else if g.kind = 1 then findG L ⟨0, 0, []⟩ else if g.kind = 2 then findG L ⟨2, -g.lit, []⟩
    else if g.kind = 3 then (L, g.inp.getD 0 0) else findG L ⟨3, 0, [i]⟩ := by
  unfold notG
  rw [(kind_get h0 h).2.1]
/-- Not of not. -/
theorem not_not (hw : wfL N B L) (hd : ND L) (hn : NFL L) {r : Int} (hr : inR L r) : ∃ M, notG (notG L r).1 (notG L r).2 = (L ++ M, r) := by
  obtain ⟨k, rfl, hk, _, h2⟩ := gateAt_get hr
  have hnf := hn k _ h2
  obtain ⟨p1, p2, p3⟩ := good_parts (hw k _ h2).1
  have hkd := allowed_kind p1
  generalize hg : L[k] = g at h2 hnf p1 p2 p3 hkd
  have e0 := not_get (L := L) (i := (k : Int)) (g := g) (by omega) (by simpa using h2)
  have back : ∀ g1 : Gate, ∃ M, (findG L g1).1 = L ++ M ∧ findG (findG L g1).1 g = (L ++ M, (k : Int)) := by
    intro g1
    obtain ⟨_, _, ⟨M, hM⟩, hnd⟩ := find_get hd g1
    refine ⟨M, hM, ?_⟩
    rw [hM] at hnd ⊢
    exact find_at hnd (by rw [List.getElem?_append_left hk]; exact h2)
  obtain ⟨kd, lt, ins⟩ := g
  simp only at e0 p1 p2 p3 hkd hnf back
  have hlit : kd ≠ 2 → lt = 0 := fun h => by simpa [litGood, h] using p2
  have hins : kd = 0 ∨ kd = 1 ∨ kd = 2 → ins = [] := by
    intro h
    unfold allowedB at p1
    rw [if_pos h] at p1
    exact List.length_eq_zero_iff.1 (by simpa using p1)
  rw [e0]
  by_cases h0 : kd = 0
  · subst h0
    rw [if_pos rfl]
    obtain ⟨a, b, _, _⟩ := find_get hd ⟨1, 0, []⟩
    obtain ⟨M, _, hb⟩ := back ⟨1, 0, []⟩
    rw [not_get b a]
    rw [hlit (by omega), hins (.inl rfl)] at hb
    exact ⟨M, hb⟩
  · rw [if_neg h0]
    by_cases h1 : kd = 1
    · subst h1
      rw [if_pos rfl]
      obtain ⟨a, b, _, _⟩ := find_get hd ⟨0, 0, []⟩
      obtain ⟨M, _, hb⟩ := back ⟨0, 0, []⟩
      rw [not_get b a]
      rw [hlit (by omega), hins (.inr (.inl rfl))] at hb
      exact ⟨M, hb⟩
    · rw [if_neg h1]
      by_cases h3 : kd = 2
      · subst h3
        rw [if_pos rfl]
        obtain ⟨a, b, _, _⟩ := find_get hd ⟨2, -lt, []⟩
        obtain ⟨M, _, hb⟩ := back ⟨2, -lt, []⟩
        rw [not_get b a]
        rw [hins (.inr (.inr rfl))] at hb
        refine ⟨M, ?_⟩
        show findG (findG L ⟨2, -lt, []⟩).1 ⟨2, - -lt, []⟩ = _
        rw [Int.neg_neg]
        exact hb
      · rw [if_neg h3]
        by_cases h4 : kd = 3
        · subst h4
          rw [if_pos rfl]
          have hl := allowed3 p1
          match ins, p3, hnf, h2, (show ins.length = 1 by omega) with
          | [a], p3, hnf, h2, _ =>
            have ha : inR L a := by
              have := p3 a (by simp)
              exact ⟨this.1, by omega⟩
            have h5 := hnf.k3 rfl a rfl
            obtain ⟨j, rfl, hj, q1, q2⟩ := gateAt_get ha
            unfold kindAt at h5
            rw [q1] at h5
            have e2 := not_get (L := L) (i := (j : Int)) (g := L[j]) (by omega) (by rw [Int.toNat_natCast]; exact q2)
            rw [if_neg (by omega), if_neg (by omega), if_neg (by omega), if_neg (by omega)] at e2
            refine ⟨[], ?_⟩
            show notG L (j : Int) = _
            rw [e2, List.append_nil]
            rw [hlit (by omega)] at h2
            exact find_at hd h2
        · rw [if_neg h4]
          obtain ⟨a, b, ⟨M, hM⟩, _⟩ := find_get hd ⟨3, 0, [(k : Int)]⟩
          refine ⟨M, ?_⟩
          rw [not_get b a, if_neg (by show ¬ (3 : Int) = 0; decide), if_neg (by show ¬ (3 : Int) = 1; decide), if_neg (by show ¬ (3 : Int) = 2; decide), if_pos rfl, hM]
          rfl
end
/-! What is needed stands before the root. -/
end Go.Proofs.YtbemhgojfehnjaaDoor
namespace Go.Proofs.YtbemhgojfehnjaaDoor
open Go Go.RowKit
theorem take_snoc {α : Type} {xs ys : List α} {k : Nat} {x : α} (h : xs.take k = ys.take k) (hx : xs[k]? = some x) (hy : ys[k]? = some x) : xs.take (k + 1) = ys.take (k + 1) := by
  rw [List.take_add_one, List.take_add_one, h, hx, hy]
theorem equal_ {W : World} {V1 V2 : Value} {xs ys : List Int} (hV1 : IntsV W W.heap.size V1 xs) (hV2 : IntsV W W.heap.size V2 ys) (hn : xs.length ≤ 1000000000) (hn2 : ys.length ≤ 1000000000) : Calls Tryd.prog 46 #[V1, V2] W fun e w' => e = .returned (.bool (decide (xs = ys))) ∧ Below W.heap.size W w' := by
  obtain ⟨A1, c1, rfl, _, _, _⟩ := id hV1
  obtain ⟨A2, c2, rfl, _, _, _⟩ := id hV2
  have O0 : Own Z0 W W [] := Own.start W
  refine sx_enter (args := [.slice A1 xs.length c1, .slice A2 ys.length c2]) Tryd.func46 rfl rfl (by simp) ?_
  refine cw_seq (fun FK1 K1 => ?_)
  refine cw_region ?_
  refine wl_val (v := .bool false) (fun ρ e => ex_assign (e _ _ rfl)) rfl rfl ?_
  refine wl_nil ?_
  refine xw_next K1 ?_
  refine cw_seq (fun FK2 K2 => ?_)
  refine cw_seq (fun FK3 K3 => ?_)
  refine cw_region ?_
  refine wl_val (v := .slice A1 xs.length c1) (fun ρ e => ex_move (e _ _ rfl)) rfl rfl ?_
  refine wl_val (v := .int .i64 ((xs.length : Nat) : Int)) (fun ρ e => ex_len el36 (e _ _ rfl)) rfl rfl ?_
  refine wl_val (v := .slice A2 ys.length c2) (fun ρ e => ex_move (e _ _ rfl)) rfl rfl ?_
  refine wl_val (v := .int .i64 ((ys.length : Nat) : Int)) (fun ρ e => ex_len el36 (e _ _ rfl)) rfl rfl ?_
  by_cases c4 : ((xs.length : Nat) : Int) ≠ ((ys.length : Nat) : Int)
  · skip
    refine wl_val (v := .bool true) (fun ρ e => ex_cmp (u := ((xs.length : Nat) : Int)) (v := ((ys.length : Nat) : Int)) (e _ _ rfl) (e _ _ rfl) (neq1 (by omega))) rfl rfl ?_
    refine wl_nil ?_
    refine xw_next K3 ?_
    refine cw_true rfl ?_
    refine cw_seq (fun FK5 K5 => ?_)
    refine cw_region ?_
    refine wl_val (v := .bool false) (fun ρ e => ex_assign (e _ _ rfl)) rfl rfl ?_
    refine wl_nil ?_
    refine xw_next K5 ?_
    refine cw_ret ?_
    refine xw_past (by intro h; cases h) ?_
    refine xw_ret (v := .bool false) (fun T hT => res1 rfl T _ (hT 4 _ rfl)) ?_
    exact ⟨by rw [decide_eq_false (fun e => c4 (by rw [e]))], O0.old⟩
  · skip
    have hlen : xs.length = ys.length := by omega
    refine wl_val (v := .bool false) (fun ρ e => ex_cmp (u := ((xs.length : Nat) : Int)) (v := ((ys.length : Nat) : Int)) (e _ _ rfl) (e _ _ rfl) (neq0 (by omega))) rfl rfl ?_
    refine wl_nil ?_
    refine xw_next K3 ?_
    refine cw_false rfl ?_
    refine cw_skip ?_
    refine xw_next K2 ?_
    refine cw_seq (fun FK6 K6 => ?_)
    refine cw_seq (fun FK7 K7 => ?_)
    refine cw_region ?_
    refine wl_val (v := .slice A1 xs.length c1) (fun ρ e => ex_move (e _ _ rfl)) rfl rfl ?_
    refine wl_val (v := .int .i64 ((xs.length : Nat) : Int)) (fun ρ e => ex_len el36 (e _ _ rfl)) rfl rfl ?_
    refine wl_val (v := .int .i64 0) (fun ρ e => ex_move (e _ _ rfl)) rfl rfl ?_
    refine wl_nil ?_
    refine xw_next K7 ?_
    refine cw_block ?_
    refine cw_loop (ι := Nat) (fun q => [(0, .slice A1 xs.length c1), (1, .slice A2 ys.length c2), (4, .bool false), (11, .slice A1 xs.length c1), (12, .int .i64 ((xs.length : Nat) : Int)), (13, .int .i64 (q : Int))]) (fun q X => (q ≤ xs.length) ∧ (xs.take q = ys.take q) ∧ Own Z0 W X []) (fun q => xs.length - q) 0 ⟨Nat.zero_le _, rfl, O0⟩ ⟨rfl, rfl, rfl, rfl, rfl, rfl, trivial⟩ (fun q w8 hJ F9 K10 => ?_)
    obtain ⟨k, rfl⟩ : ∃ x, x = q := ⟨_, rfl⟩
    obtain ⟨hk0, hp, O11⟩ := hJ
    try dsimp only at hk0 hp O11 ⊢
    by_cases hk : k < xs.length
    · obtain ⟨x, hxk, hdx, _⟩ := drop_cons hk
      obtain ⟨y, hyk, hdy, _⟩ := drop_cons (show k < ys.length by omega)
      obtain ⟨b1, o1, d1, hb1⟩ := (IntsD.of_V hV1).form (by omega)
      obtain ⟨b2, o2, d2, hb2⟩ := (IntsD.of_V hV2).form (by omega)
      refine cw_seq (fun FK12 K12 => ?_)
      refine cw_region ?_
      refine wl_val (v := .bool true) (fun ρ e => ex_cmp (u := (k : Int)) (v := ((xs.length : Nat) : Int)) (e _ _ rfl) (e _ _ rfl) (lss1 (by omega))) rfl rfl ?_
      refine wl_nil ?_
      refine xw_next K12 ?_
      refine cw_seq (fun FK13 K13 => ?_)
      refine cw_true rfl ?_
      refine cw_skip ?_
      refine xw_next K13 ?_
      refine cw_seq (fun FK14 K14 => ?_)
      refine cw_block ?_
      refine cw_seq (fun FK15 K15 => ?_)
      refine cw_region ?_
      refine wl_val (v := .int .i64 (k : Int)) (fun ρ e => ex_move (e _ _ rfl)) rfl rfl ?_
      refine wl_val (v := .int .i64 (k : Int)) (fun ρ e => ex_assign (e _ _ rfl)) rfl rfl ?_
      refine wl_nil ?_
      refine xw_next K15 ?_
      refine cw_seq (fun FK16 K16 => ?_)
      refine cw_drawn (fun X => Own Z0 W X []) 9 [(0, 1), (1, 1), (2, 1), (3, 0), (4, 1), (5, 1), (6, 1), (7, 0), (8, 1)] (by kernel_rfl) (by kernel_rfl) (PQ.then_ (PQ.block (PQ.then_ (PQ.then_ (PQ.block (PQ.then_ PQ.body)))))) (O11).drew ?_
      have O17 : Own Z0 W w8.drew [] := O11.drew
      refine wt1 (v := .slice A1 xs.length c1) rfl (fun ρ e W => ex_move (e _ _ rfl)) rfl rfl ?_
      refine wt1 (v := .int .i64 (k : Int)) rfl (fun ρ e W => ex_move (e _ _ rfl)) rfl rfl ?_
      refine wt1 (v := .pointer (some ⟨b1, o1 + k, none⟩)) rfl (fun ρ e W => ex_idx (q := o1 + k) (o := o1) (i := k) el36 ((e _ _ rfl).trans hb1) (e _ _ rfl) (by omega) (by omega)) rfl rfl ?_
      refine wt0 (v := .int .i64 x) rfl (fun ρ e W hW => ex_load1 ty3 (e _ _ rfl) (((hV1.below hW.old).at1 hb1 (by omega) hxk))) rfl rfl ?_
      refine wt1 (v := .slice A2 ys.length c2) rfl (fun ρ e W => ex_move (e _ _ rfl)) rfl rfl ?_
      refine wt1 (v := .int .i64 (k : Int)) rfl (fun ρ e W => ex_move (e _ _ rfl)) rfl rfl ?_
      refine wt1 (v := .pointer (some ⟨b2, o2 + k, none⟩)) rfl (fun ρ e W => ex_idx (q := o2 + k) (o := o2) (i := k) el36 ((e _ _ rfl).trans hb2) (e _ _ rfl) (by omega) (by omega)) rfl rfl ?_
      refine wt0 (v := .int .i64 y) rfl (fun ρ e W hW => ex_load1 ty3 (e _ _ rfl) (((hV2.below hW.old).at1 hb2 (by omega) hyk))) rfl rfl ?_
      by_cases c18 : x ≠ y
      · skip
        refine wt1 (v := .bool true) rfl (fun ρ e W => ex_cmp (u := x) (v := y) (e _ _ rfl) (e _ _ rfl) (neq1 (by omega))) rfl rfl ?_
        refine wt_nil ?_
        refine xw_next K16 ?_
        refine cw_true rfl ?_
        refine cw_seq (fun FK19 K19 => ?_)
        refine cw_region ?_
        refine wl_val (v := .bool false) (fun ρ e => ex_assign (e _ _ rfl)) rfl rfl ?_
        refine wl_nil ?_
        refine xw_next K19 ?_
        refine cw_ret ?_
        refine xw_blockret ?_
        refine xw_past (by intro h; cases h) ?_
        refine xw_past (by intro h; cases h) ?_
        refine xw_blockret ?_
        refine xw_past (by intro h; cases h) ?_
        refine xw_ret (v := .bool false) (fun T hT => res1 rfl T _ (hT 4 _ rfl)) ?_
        exact ⟨by rw [decide_eq_false (fun e => c18 (by subst e; rw [hxk] at hyk; exact Option.some.inj hyk))], O17.old⟩
      · skip
        have c18e : y = x := by omega
        refine wt1 (v := .bool false) rfl (fun ρ e W => ex_cmp (u := x) (v := y) (e _ _ rfl) (e _ _ rfl) (neq0 (by omega))) rfl rfl ?_
        refine wt_nil ?_
        refine xw_next K16 ?_
        refine cw_false rfl ?_
        refine cw_skip ?_
        refine xw_block ?_
        refine xw_next K14 ?_
        refine cw_region ?_
        refine wl_val (v := .int .i64 ((k + 1 : Nat) : Int)) (fun ρ e => ex_arith (k := .i64) (u := (k : Int)) (v := 1) (e _ _ rfl) (e _ _ rfl) (congrArg some ((congrArg _ (by omega)).trans (wrap_in (u := ((k + 1 : Nat) : Int)) (by omega) (by omega))))) rfl rfl ?_
        refine wl_val (v := .int .i64 ((k + 1 : Nat) : Int)) (fun ρ e => ex_move (e _ _ rfl)) rfl rfl ?_
        refine wl_nil ?_
        refine xw_round K10 (k + 1) (by show xs.length - (k + 1) < xs.length - k; omega) ⟨(by show k + 1 ≤ _; omega), (take_snoc hp hxk (c18e ▸ hyk)), O17⟩ ⟨rfl, rfl, rfl, rfl, rfl, rfl, trivial⟩
    · have hke : k = xs.length := by omega
      refine cw_seq (fun FK20 K20 => ?_)
      refine cw_region ?_
      refine wl_val (v := .bool false) (fun ρ e => ex_cmp (u := (k : Int)) (v := ((xs.length : Nat) : Int)) (e _ _ rfl) (e _ _ rfl) (lss0 (by omega))) rfl rfl ?_
      refine wl_nil ?_
      refine xw_next K20 ?_
      refine cw_seq (fun FK21 K21 => ?_)
      refine cw_false rfl ?_
      refine cw_exit ?_
      refine xw_past (by intro h; cases h) ?_
      refine xw_past (by intro h; cases h) ?_
      refine xw_here ?_
      refine xw_next K6 ?_
      refine cw_seq (fun FK22 K22 => ?_)
      refine cw_region ?_
      refine wl_val (v := .bool true) (fun ρ e => ex_assign (e _ _ rfl)) rfl rfl ?_
      refine wl_nil ?_
      refine xw_next K22 ?_
      refine cw_ret ?_
      refine xw_ret (v := .bool true) (fun T hT => res1 rfl T _ (hT 4 _ rfl)) ?_
      exact ⟨by rw [decide_eq_true (by rw [hke, List.take_length] at hp; rw [hp, show xs.length = ys.length by omega, List.take_length])], O11.old⟩
theorem gate_dec {g h : Gate} (h1 : g.kind = h.kind) (h2 : g.lit = h.lit) : decide (g = h) = decide (g.inp = h.inp) := by
  cases g; cases h
  simp only at h1 h2
  subst h1 h2
  simp
theorem same1_ {W : World} {V1 V2 : Value} {g h : Gate} (hV1 : IntsV W W.heap.size V1 g.inp) (hV2 : IntsV W W.heap.size V2 h.inp) (hn : g.inp.length ≤ 1000000000) (hn2 : h.inp.length ≤ 1000000000) : Calls Tryd.prog 45 #[.agg #[.int .i64 g.kind, .int .i64 g.lit, V1], .agg #[.int .i64 h.kind, .int .i64 h.lit, V2]] W fun e w' => e = .returned (.bool (decide (g = h))) ∧ Below W.heap.size W w' := by
  have O0 : Own Z0 W W [] := Own.start W
  refine sx_enter (args := [.agg #[.int .i64 g.kind, .int .i64 g.lit, V1], .agg #[.int .i64 h.kind, .int .i64 h.lit, V2]]) Tryd.func45 rfl rfl (by simp) ?_
  refine cw_seq (fun FK1 K1 => ?_)
  refine cw_region ?_
  obtain ⟨g2, w3, r4, O5, hg6, hs7⟩ := own_box O0 38 (.agg #[.int .i64 g.kind, .int .i64 g.lit, V1]) rfl
  refine wl_val (v := .pointer (some ⟨g2, 0, none⟩)) (fun ρ e => r4 ρ _ _ _ _ _ _ (e _ _ rfl)) rfl rfl ?_
  obtain ⟨g8, w9, r10, O11, hg12, hs13⟩ := own_box O5 38 (.agg #[.int .i64 h.kind, .int .i64 h.lit, V2]) rfl
  refine wl_val (v := .pointer (some ⟨g8, 0, none⟩)) (fun ρ e => r10 ρ _ _ _ _ _ _ (e _ _ rfl)) rfl rfl ?_
  refine wl_val (v := .bool false) (fun ρ e => ex_assign (e _ _ rfl)) rfl rfl ?_
  refine wl_nil ?_
  refine xw_next K1 ?_
  refine cw_seq (fun FK14 K14 => ?_)
  refine cw_region ?_
  refine wl_val (v := .pointer (some ⟨g2, 0, none⟩)) (fun ρ e => ex_field (q := 0) fi38_0 (e _ _ rfl) rfl) rfl rfl ?_
  refine wl_val (v := .int .i64 g.kind) (fun ρ e => ex_load1 ty3 (e _ _ rfl) (O11.cell 1 0 rfl rfl)) rfl rfl ?_
  refine wl_val (v := .pointer (some ⟨g8, 0, none⟩)) (fun ρ e => ex_field (q := 0) fi38_0 (e _ _ rfl) rfl) rfl rfl ?_
  refine wl_val (v := .int .i64 h.kind) (fun ρ e => ex_load1 ty3 (e _ _ rfl) (O11.cell 0 0 rfl rfl)) rfl rfl ?_
  by_cases c15 : g.kind = h.kind
  · skip
    refine wl_val (v := .bool true) (fun ρ e => ex_cmp (u := g.kind) (v := h.kind) (e _ _ rfl) (e _ _ rfl) (eql1 (by omega))) rfl rfl ?_
    refine wl_val (v := .bool true) (fun ρ e => ex_move (e _ _ rfl)) rfl rfl ?_
    refine wl_val (v := .pointer (some ⟨g2, 1, none⟩)) (fun ρ e => ex_field (q := 1) fi38_1 (e _ _ rfl) rfl) rfl rfl ?_
    refine wl_val (v := .int .i64 g.lit) (fun ρ e => ex_load1 ty3 (e _ _ rfl) (O11.cell 1 1 rfl rfl)) rfl rfl ?_
    refine wl_val (v := .pointer (some ⟨g8, 1, none⟩)) (fun ρ e => ex_field (q := 1) fi38_1 (e _ _ rfl) rfl) rfl rfl ?_
    refine wl_val (v := .int .i64 h.lit) (fun ρ e => ex_load1 ty3 (e _ _ rfl) (O11.cell 0 1 rfl rfl)) rfl rfl ?_
    by_cases c16 : g.lit = h.lit
    · skip
      refine wl_val (v := .bool true) (fun ρ e => ex_cmp (u := g.lit) (v := h.lit) (e _ _ rfl) (e _ _ rfl) (eql1 (by omega))) rfl rfl ?_
      refine wl_val (v := .bool true) (fun ρ e => ex_pick1 (e _ _ rfl) (e _ _ rfl)) rfl rfl ?_
      refine wl_val (v := .bool true) (fun ρ e => ex_move (e _ _ rfl)) rfl rfl ?_
      refine wl_val (v := .pointer (some ⟨g2, 2, none⟩)) (fun ρ e => ex_field (q := 2) fi38_2 (e _ _ rfl) rfl) rfl rfl ?_
      refine wl_val (v := V1) (fun ρ e => ex_load1 ty36 (e _ _ rfl) (O11.cell 1 2 rfl rfl)) rfl rfl ?_
      refine wl_val (v := .pointer (some ⟨g8, 2, none⟩)) (fun ρ e => ex_field (q := 2) fi38_2 (e _ _ rfl) rfl) rfl rfl ?_
      refine wl_val (v := V2) (fun ρ e => ex_load1 ty36 (e _ _ rfl) (O11.cell 0 2 rfl rfl)) rfl rfl ?_
      refine wl_call (args := [V1, V2]) in_46 rfl rfl rfl ?_
      refine (equal_ ((hV1.below O11.old).more O11.old.size) ((hV2.below O11.old).more O11.old.size) hn hn2).mono ?_
      rintro _ w17 ⟨rfl, hb18⟩
      have O19 : Own Z0 W w17 [.blk g8 38 #[.int .i64 h.kind, .int .i64 h.lit, V2], .blk g2 38 #[.int .i64 g.kind, .int .i64 g.lit, V1]] := O11.below hb18
      refine ⟨_, rfl, ?_⟩
      refine wl_val (v := .bool (decide (g.inp = h.inp))) (fun ρ e => ex_pick1 (e _ _ rfl) (e _ _ rfl)) rfl rfl ?_
      refine wl_val (v := .bool (decide (g.inp = h.inp))) (fun ρ e => ex_assign (e _ _ rfl)) rfl rfl ?_
      refine wl_nil ?_
      refine xw_next K14 ?_
      refine cw_ret ?_
      refine xw_ret (v := .bool (decide (g.inp = h.inp))) (fun T hT => res1 rfl T _ (hT 4 _ rfl)) ?_
      exact ⟨by rw [gate_dec c15 c16], O19.old⟩
    · skip
      refine wl_val (v := .bool false) (fun ρ e => ex_cmp (u := g.lit) (v := h.lit) (e _ _ rfl) (e _ _ rfl) (eql0 (by omega))) rfl rfl ?_
      refine wl_val (v := .bool false) (fun ρ e => ex_pick1 (e _ _ rfl) (e _ _ rfl)) rfl rfl ?_
      refine wl_val (v := .bool false) (fun ρ e => ex_move (e _ _ rfl)) rfl rfl ?_
      refine wl_skip rfl rfl ?_
      refine wl_skip rfl rfl ?_
      refine wl_skip rfl rfl ?_
      refine wl_skip rfl rfl ?_
      refine wl_skip rfl rfl ?_
      refine wl_val (v := .bool false) (fun ρ e => ex_pick0 (e _ _ rfl) (e _ _ rfl)) rfl rfl ?_
      refine wl_val (v := .bool false) (fun ρ e => ex_assign (e _ _ rfl)) rfl rfl ?_
      refine wl_nil ?_
      refine xw_next K14 ?_
      refine cw_ret ?_
      refine xw_ret (v := .bool false) (fun T hT => res1 rfl T _ (hT 4 _ rfl)) ?_
      exact ⟨by rw [decide_eq_false (fun e => c16 (by rw [e]))], O11.old⟩
  · skip
    refine wl_val (v := .bool false) (fun ρ e => ex_cmp (u := g.kind) (v := h.kind) (e _ _ rfl) (e _ _ rfl) (eql0 (by omega))) rfl rfl ?_
    refine wl_val (v := .bool false) (fun ρ e => ex_move (e _ _ rfl)) rfl rfl ?_
    refine wl_skip rfl rfl ?_
    refine wl_skip rfl rfl ?_
    refine wl_skip rfl rfl ?_
    refine wl_skip rfl rfl ?_
    refine wl_skip rfl rfl ?_
    refine wl_val (v := .bool false) (fun ρ e => ex_pick0 (e _ _ rfl) (e _ _ rfl)) rfl rfl ?_
    refine wl_val (v := .bool false) (fun ρ e => ex_move (e _ _ rfl)) rfl rfl ?_
    refine wl_skip rfl rfl ?_
    refine wl_skip rfl rfl ?_
    refine wl_skip rfl rfl ?_
    refine wl_skip rfl rfl ?_
    refine wl_skip rfl rfl ?_
    refine wl_val (v := .bool false) (fun ρ e => ex_pick0 (e _ _ rfl) (e _ _ rfl)) rfl rfl ?_
    refine wl_val (v := .bool false) (fun ρ e => ex_assign (e _ _ rfl)) rfl rfl ?_
    refine wl_nil ?_
    refine xw_next K14 ?_
    refine cw_ret ?_
    refine xw_ret (v := .bool false) (fun T hT => res1 rfl T _ (hT 4 _ rfl)) ?_
    exact ⟨by rw [decide_eq_false (fun e => c15 (by rw [e]))], O11.old⟩
def shortG (gs : List Gate) : Prop := ∀ g ∈ gs, g.inp.length ≤ 1000000000
theorem equalFunc_ {W : World} {V1 V2 : Value} {gs hs : List Gate} (hV1 : GatesV W W.heap.size V1 gs) (hV2 : GatesV W W.heap.size V2 hs) (hn : shortG gs) (hn2 : shortG hs) (hl : gs.length ≤ 1000000000) (hl2 : hs.length ≤ 1000000000) : Calls Tryd.prog 44 #[V1, V2, .func (.func 45) #[] #[]] W fun e w' => e = .returned (.bool (decide (gs = hs))) ∧ Below W.heap.size W w' := by
  obtain ⟨A1, c1, rfl, _, hm1, _⟩ := id hV1
  obtain ⟨A2, c2, rfl, _, hm2, _⟩ := id hV2
  have hm3 : maxLen = 9223372036854775807 := rfl
  have O0 : Own Z0 W W [] := Own.start W
  refine sx_enter (args := [.slice A1 gs.length c1, .slice A2 hs.length c2, .func (.func 45) #[] #[]]) Tryd.func44 rfl rfl (by simp) ?_
  refine cw_seq (fun FK1 K1 => ?_)
  refine cw_region ?_
  refine wl_val (v := .bool false) (fun ρ e => ex_assign (e _ _ rfl)) rfl rfl ?_
  refine wl_nil ?_
  refine xw_next K1 ?_
  refine cw_seq (fun FK2 K2 => ?_)
  refine cw_seq (fun FK3 K3 => ?_)
  refine cw_region ?_
  refine wl_val (v := .slice A1 gs.length c1) (fun ρ e => ex_move (e _ _ rfl)) rfl rfl ?_
  refine wl_val (v := .int .i64 ((gs.length : Nat) : Int)) (fun ρ e => ex_len el22 (e _ _ rfl)) rfl rfl ?_
  refine wl_val (v := .slice A2 hs.length c2) (fun ρ e => ex_move (e _ _ rfl)) rfl rfl ?_
  refine wl_val (v := .int .i64 ((hs.length : Nat) : Int)) (fun ρ e => ex_len el22 (e _ _ rfl)) rfl rfl ?_
  by_cases c4 : ((gs.length : Nat) : Int) ≠ ((hs.length : Nat) : Int)
  · skip
    refine wl_val (v := .bool true) (fun ρ e => ex_cmp (u := ((gs.length : Nat) : Int)) (v := ((hs.length : Nat) : Int)) (e _ _ rfl) (e _ _ rfl) (neq1 (by omega))) rfl rfl ?_
    refine wl_nil ?_
    refine xw_next K3 ?_
    refine cw_true rfl ?_
    refine cw_seq (fun FK5 K5 => ?_)
    refine cw_region ?_
    refine wl_val (v := .bool false) (fun ρ e => ex_assign (e _ _ rfl)) rfl rfl ?_
    refine wl_nil ?_
    refine xw_next K5 ?_
    refine cw_ret ?_
    refine xw_past (by intro h; cases h) ?_
    refine xw_ret (v := .bool false) (fun T hT => res1 rfl T _ (hT 6 _ rfl)) ?_
    exact ⟨by rw [decide_eq_false (fun e => c4 (by rw [e]))], O0.old⟩
  · skip
    have hlen : gs.length = hs.length := by omega
    refine wl_val (v := .bool false) (fun ρ e => ex_cmp (u := ((gs.length : Nat) : Int)) (v := ((hs.length : Nat) : Int)) (e _ _ rfl) (e _ _ rfl) (neq0 (by omega))) rfl rfl ?_
    refine wl_nil ?_
    refine xw_next K3 ?_
    refine cw_false rfl ?_
    refine cw_skip ?_
    refine xw_next K2 ?_
    refine cw_seq (fun FK6 K6 => ?_)
    refine cw_seq (fun FK7 K7 => ?_)
    refine cw_region ?_
    refine wl_val (v := .slice A1 gs.length c1) (fun ρ e => ex_move (e _ _ rfl)) rfl rfl ?_
    refine wl_val (v := .int .i64 ((gs.length : Nat) : Int)) (fun ρ e => ex_len el22 (e _ _ rfl)) rfl rfl ?_
    refine wl_val (v := .int .i64 0) (fun ρ e => ex_move (e _ _ rfl)) rfl rfl ?_
    refine wl_nil ?_
    refine xw_next K7 ?_
    refine cw_block ?_
    refine cw_loop (ι := Nat) (fun q => [(1, .slice A2 hs.length c2), (2, .func (.func 45) #[] #[]), (6, .bool false), (15, .slice A1 gs.length c1), (16, .int .i64 ((gs.length : Nat) : Int)), (17, .int .i64 (q : Int))]) (fun q X => (q ≤ gs.length) ∧ (gs.take q = hs.take q) ∧ Own Z0 W X []) (fun q => gs.length - q) 0 ⟨Nat.zero_le _, rfl, O0⟩ ⟨rfl, rfl, rfl, rfl, rfl, rfl, trivial⟩ (fun q w8 hJ F9 K10 => ?_)
    obtain ⟨k, rfl⟩ : ∃ x, x = q := ⟨_, rfl⟩
    obtain ⟨hk0, hp, O11⟩ := hJ
    try dsimp only at hk0 hp O11 ⊢
    by_cases hk : k < gs.length
    · have hk2 : k < hs.length := by omega
      obtain ⟨b1, o1, I1, e1, hA1, hB1, p10, p11, p12, hI1, _, _⟩ := hV1.at_ (Below.refl _ _) (show k < gs.length by omega)
      obtain ⟨b2, o2, I2, e2, hA2, hB2, p20, p21, p22, hI2, _, _⟩ := hV2.at_ (Below.refl _ _) (show k < hs.length by omega)
      by_cases heq : gs[k] = hs[k]
      · have hdec : decide (gs[k] = hs[k]) = true := by simp [heq]
        refine cw_seq (fun FK12 K12 => ?_)
        refine cw_region ?_
        refine wl_val (v := .bool true) (fun ρ e => ex_cmp (u := (k : Int)) (v := ((gs.length : Nat) : Int)) (e _ _ rfl) (e _ _ rfl) (lss1 (by omega))) rfl rfl ?_
        refine wl_nil ?_
        refine xw_next K12 ?_
        refine cw_seq (fun FK13 K13 => ?_)
        refine cw_true rfl ?_
        refine cw_skip ?_
        refine xw_next K13 ?_
        refine cw_seq (fun FK14 K14 => ?_)
        refine cw_block ?_
        refine cw_seq (fun FK15 K15 => ?_)
        refine cw_region ?_
        refine wl_val (v := .int .i64 (k : Int)) (fun ρ e => ex_move (e _ _ rfl)) rfl rfl ?_
        refine wl_val (v := .pointer (some ⟨b1, o1 + k * 3, none⟩)) (fun ρ e => ex_idx (q := o1 + k * 3) (g := b1) (o := o1) (i := k) el22 ((e _ _ rfl).trans (congrArg (fun z => Value.slice z gs.length c1) hA1)) (e _ _ rfl) (by omega) (by omega)) rfl rfl ?_
        refine wl_val (v := .agg #[.int .i64 (gs[k].kind), .int .i64 (gs[k].lit), .slice I1 (gs[k].inp.length) e1]) (fun ρ e => ex_loadN (vs := [.int .i64 (gs[k].kind), .int .i64 (gs[k].lit), .slice I1 (gs[k].inp.length) e1]) ty38 (e _ _ rfl) rfl (cells3 ((O11.old.cell (p := ⟨b1, o1 + k * 3, none⟩) hB1).trans p10) ((O11.old.cell (p := ⟨b1, o1 + k * 3 + 1, none⟩) hB1).trans p11) ((O11.old.cell (p := ⟨b1, o1 + k * 3 + 2, none⟩) hB1).trans p12))) rfl rfl ?_
        obtain ⟨g16, w17, r18, O19, hg20, hs21⟩ := own_alloc O11 38 ze38 rfl
        refine wl_val (v := .pointer (some ⟨g16, 0, none⟩)) (fun ρ e => r18 ρ _ _ _ _ _) rfl rfl ?_
        refine wl_val (v := .int .i64 (k : Int)) (fun ρ e => ex_assign (e _ _ rfl)) rfl rfl ?_
        obtain ⟨w22, r23, O24, hs25⟩ := own_put (o := 0) (n := 3) O19 ty38 (.agg #[.int .i64 (gs[k].kind), .int .i64 (gs[k].lit), .slice I1 (gs[k].inp.length) e1]) [.int .i64 (gs[k].kind), .int .i64 (gs[k].lit), .slice I1 (gs[k].inp.length) e1] (cs' := #[.int .i64 (gs[k].kind), .int .i64 (gs[k].lit), .slice I1 (gs[k].inp.length) e1]) rfl rfl rfl (Nat.le_of_ble_eq_true rfl) rfl
        refine wl_none (fun ρ e => r23 ρ _ _ _ _ _ _ (e _ _ rfl) (e _ _ rfl)) rfl ?_
        refine wl_nil ?_
        refine xw_next K15 ?_
        refine cw_seq (fun FK26 K26 => ?_)
        refine cw_region ?_
        refine wl_val (v := .slice A2 hs.length c2) (fun ρ e => ex_move (e _ _ rfl)) rfl rfl ?_
        refine wl_val (v := .int .i64 (k : Int)) (fun ρ e => ex_move (e _ _ rfl)) rfl rfl ?_
        refine wl_val (v := .pointer (some ⟨b2, o2 + k * 3, none⟩)) (fun ρ e => ex_idx (q := o2 + k * 3) (g := b2) (o := o2) (i := k) el22 ((e _ _ rfl).trans (congrArg (fun z => Value.slice z hs.length c2) hA2)) (e _ _ rfl) (by omega) (by omega)) rfl rfl ?_
        refine wl_val (v := .agg #[.int .i64 (hs[k].kind), .int .i64 (hs[k].lit), .slice I2 (hs[k].inp.length) e2]) (fun ρ e => ex_loadN (vs := [.int .i64 (hs[k].kind), .int .i64 (hs[k].lit), .slice I2 (hs[k].inp.length) e2]) ty38 (e _ _ rfl) rfl (cells3 ((O24.old.cell (p := ⟨b2, o2 + k * 3, none⟩) hB2).trans p20) ((O24.old.cell (p := ⟨b2, o2 + k * 3 + 1, none⟩) hB2).trans p21) ((O24.old.cell (p := ⟨b2, o2 + k * 3 + 2, none⟩) hB2).trans p22))) rfl rfl ?_
        obtain ⟨g27, w28, r29, O30, hg31, hs32⟩ := own_alloc O24 38 ze38 rfl
        refine wl_val (v := .pointer (some ⟨g27, 0, none⟩)) (fun ρ e => r29 ρ _ _ _ _ _) rfl rfl ?_
        obtain ⟨w33, r34, O35, hs36⟩ := own_put (o := 0) (n := 3) O30 ty38 (.agg #[.int .i64 (hs[k].kind), .int .i64 (hs[k].lit), .slice I2 (hs[k].inp.length) e2]) [.int .i64 (hs[k].kind), .int .i64 (hs[k].lit), .slice I2 (hs[k].inp.length) e2] (cs' := #[.int .i64 (hs[k].kind), .int .i64 (hs[k].lit), .slice I2 (hs[k].inp.length) e2]) rfl rfl rfl (Nat.le_of_ble_eq_true rfl) rfl
        refine wl_none (fun ρ e => r34 ρ _ _ _ _ _ _ (e _ _ rfl) (e _ _ rfl)) rfl ?_
        refine wl_nil ?_
        refine xw_next K26 ?_
        refine cw_seq (fun FK37 K37 => ?_)
        refine cw_region ?_
        refine wl_val (v := .func (.func 45) #[] #[]) (fun ρ e => ex_move (e _ _ rfl)) rfl rfl ?_
        refine wl_val (v := .agg #[.int .i64 (gs[k].kind), .int .i64 (gs[k].lit), .slice I1 (gs[k].inp.length) e1]) (fun ρ e => ex_loadN (vs := [.int .i64 (gs[k].kind), .int .i64 (gs[k].lit), .slice I1 (gs[k].inp.length) e1]) ty38 (e _ _ rfl) rfl (O35.cells 1 0 rfl rfl)) rfl rfl ?_
        refine wl_val (v := .agg #[.int .i64 (hs[k].kind), .int .i64 (hs[k].lit), .slice I2 (hs[k].inp.length) e2]) (fun ρ e => ex_loadN (vs := [.int .i64 (hs[k].kind), .int .i64 (hs[k].lit), .slice I2 (hs[k].inp.length) e2]) ty38 (e _ _ rfl) rfl (O35.cells 0 0 rfl rfl)) rfl rfl ?_
        refine wl_callv (args := [.agg #[.int .i64 (gs[k].kind), .int .i64 (gs[k].lit), .slice I1 (gs[k].inp.length) e1], .agg #[.int .i64 (hs[k].kind), .int .i64 (hs[k].lit), .slice I2 (hs[k].inp.length) e2]]) (all := [.agg #[.int .i64 (gs[k].kind), .int .i64 (gs[k].lit), .slice I1 (gs[k].inp.length) e1], .agg #[.int .i64 (hs[k].kind), .int .i64 (hs[k].lit), .slice I2 (hs[k].inp.length) e2]]) in_45 rfl rfl rfl rfl rfl ?_
        refine (same1_ (g := gs[k]) (h := hs[k]) ((hI1.below O35.old).more O35.old.size) ((hI2.below O35.old).more O35.old.size) (hn _ (List.getElem_mem hk)) (hn2 _ (List.getElem_mem hk2))).mono ?_
        rintro _ w38 ⟨rfl, hb39⟩
        have O40 : Own Z0 W w38 [.blk g27 38 #[.int .i64 (hs[k].kind), .int .i64 (hs[k].lit), .slice I2 (hs[k].inp.length) e2], .blk g16 38 #[.int .i64 (gs[k].kind), .int .i64 (gs[k].lit), .slice I1 (gs[k].inp.length) e1]] := O35.below hb39
        rw [hdec]
        refine ⟨_, rfl, ?_⟩
        refine wl_val (v := .bool false) (fun ρ e => ex_lnot (b := true) (e _ _ rfl)) rfl rfl ?_
        refine wl_nil ?_
        refine xw_next K37 ?_
        refine cw_false rfl ?_
        refine cw_skip ?_
        refine xw_block ?_
        refine xw_next K14 ?_
        refine cw_region ?_
        refine wl_val (v := .int .i64 ((k + 1 : Nat) : Int)) (fun ρ e => ex_arith (k := .i64) (u := (k : Int)) (v := 1) (e _ _ rfl) (e _ _ rfl) (congrArg some ((congrArg _ (by omega)).trans (wrap_in (u := ((k + 1 : Nat) : Int)) (by omega) (by omega))))) rfl rfl ?_
        refine wl_val (v := .int .i64 ((k + 1 : Nat) : Int)) (fun ρ e => ex_move (e _ _ rfl)) rfl rfl ?_
        refine wl_nil ?_
        refine xw_round K10 (k + 1) (by show gs.length - (k + 1) < gs.length - k; omega) ⟨(by show k + 1 ≤ _; omega), (take_snoc hp (List.getElem?_eq_getElem hk) (heq ▸ List.getElem?_eq_getElem hk2)), (O40.re [] rfl : Own Z0 W w38 [])⟩ ⟨rfl, rfl, rfl, rfl, rfl, rfl, trivial⟩
      · have hdec : decide (gs[k] = hs[k]) = false := by simp [heq]
        refine cw_seq (fun FK42 K42 => ?_)
        refine cw_region ?_
        refine wl_val (v := .bool true) (fun ρ e => ex_cmp (u := (k : Int)) (v := ((gs.length : Nat) : Int)) (e _ _ rfl) (e _ _ rfl) (lss1 (by omega))) rfl rfl ?_
        refine wl_nil ?_
        refine xw_next K42 ?_
        refine cw_seq (fun FK43 K43 => ?_)
        refine cw_true rfl ?_
        refine cw_skip ?_
        refine xw_next K43 ?_
        refine cw_seq (fun FK44 K44 => ?_)
        refine cw_block ?_
        refine cw_seq (fun FK45 K45 => ?_)
        refine cw_region ?_
        refine wl_val (v := .int .i64 (k : Int)) (fun ρ e => ex_move (e _ _ rfl)) rfl rfl ?_
        refine wl_val (v := .pointer (some ⟨b1, o1 + k * 3, none⟩)) (fun ρ e => ex_idx (q := o1 + k * 3) (g := b1) (o := o1) (i := k) el22 ((e _ _ rfl).trans (congrArg (fun z => Value.slice z gs.length c1) hA1)) (e _ _ rfl) (by omega) (by omega)) rfl rfl ?_
        refine wl_val (v := .agg #[.int .i64 (gs[k].kind), .int .i64 (gs[k].lit), .slice I1 (gs[k].inp.length) e1]) (fun ρ e => ex_loadN (vs := [.int .i64 (gs[k].kind), .int .i64 (gs[k].lit), .slice I1 (gs[k].inp.length) e1]) ty38 (e _ _ rfl) rfl (cells3 ((O11.old.cell (p := ⟨b1, o1 + k * 3, none⟩) hB1).trans p10) ((O11.old.cell (p := ⟨b1, o1 + k * 3 + 1, none⟩) hB1).trans p11) ((O11.old.cell (p := ⟨b1, o1 + k * 3 + 2, none⟩) hB1).trans p12))) rfl rfl ?_
        obtain ⟨g46, w47, r48, O49, hg50, hs51⟩ := own_alloc O11 38 ze38 rfl
        refine wl_val (v := .pointer (some ⟨g46, 0, none⟩)) (fun ρ e => r48 ρ _ _ _ _ _) rfl rfl ?_
        refine wl_val (v := .int .i64 (k : Int)) (fun ρ e => ex_assign (e _ _ rfl)) rfl rfl ?_
        obtain ⟨w52, r53, O54, hs55⟩ := own_put (o := 0) (n := 3) O49 ty38 (.agg #[.int .i64 (gs[k].kind), .int .i64 (gs[k].lit), .slice I1 (gs[k].inp.length) e1]) [.int .i64 (gs[k].kind), .int .i64 (gs[k].lit), .slice I1 (gs[k].inp.length) e1] (cs' := #[.int .i64 (gs[k].kind), .int .i64 (gs[k].lit), .slice I1 (gs[k].inp.length) e1]) rfl rfl rfl (Nat.le_of_ble_eq_true rfl) rfl
        refine wl_none (fun ρ e => r53 ρ _ _ _ _ _ _ (e _ _ rfl) (e _ _ rfl)) rfl ?_
        refine wl_nil ?_
        refine xw_next K45 ?_
        refine cw_seq (fun FK56 K56 => ?_)
        refine cw_region ?_
        refine wl_val (v := .slice A2 hs.length c2) (fun ρ e => ex_move (e _ _ rfl)) rfl rfl ?_
        refine wl_val (v := .int .i64 (k : Int)) (fun ρ e => ex_move (e _ _ rfl)) rfl rfl ?_
        refine wl_val (v := .pointer (some ⟨b2, o2 + k * 3, none⟩)) (fun ρ e => ex_idx (q := o2 + k * 3) (g := b2) (o := o2) (i := k) el22 ((e _ _ rfl).trans (congrArg (fun z => Value.slice z hs.length c2) hA2)) (e _ _ rfl) (by omega) (by omega)) rfl rfl ?_
        refine wl_val (v := .agg #[.int .i64 (hs[k].kind), .int .i64 (hs[k].lit), .slice I2 (hs[k].inp.length) e2]) (fun ρ e => ex_loadN (vs := [.int .i64 (hs[k].kind), .int .i64 (hs[k].lit), .slice I2 (hs[k].inp.length) e2]) ty38 (e _ _ rfl) rfl (cells3 ((O54.old.cell (p := ⟨b2, o2 + k * 3, none⟩) hB2).trans p20) ((O54.old.cell (p := ⟨b2, o2 + k * 3 + 1, none⟩) hB2).trans p21) ((O54.old.cell (p := ⟨b2, o2 + k * 3 + 2, none⟩) hB2).trans p22))) rfl rfl ?_
        obtain ⟨g57, w58, r59, O60, hg61, hs62⟩ := own_alloc O54 38 ze38 rfl
        refine wl_val (v := .pointer (some ⟨g57, 0, none⟩)) (fun ρ e => r59 ρ _ _ _ _ _) rfl rfl ?_
        obtain ⟨w63, r64, O65, hs66⟩ := own_put (o := 0) (n := 3) O60 ty38 (.agg #[.int .i64 (hs[k].kind), .int .i64 (hs[k].lit), .slice I2 (hs[k].inp.length) e2]) [.int .i64 (hs[k].kind), .int .i64 (hs[k].lit), .slice I2 (hs[k].inp.length) e2] (cs' := #[.int .i64 (hs[k].kind), .int .i64 (hs[k].lit), .slice I2 (hs[k].inp.length) e2]) rfl rfl rfl (Nat.le_of_ble_eq_true rfl) rfl
        refine wl_none (fun ρ e => r64 ρ _ _ _ _ _ _ (e _ _ rfl) (e _ _ rfl)) rfl ?_
        refine wl_nil ?_
        refine xw_next K56 ?_
        refine cw_seq (fun FK67 K67 => ?_)
        refine cw_region ?_
        refine wl_val (v := .func (.func 45) #[] #[]) (fun ρ e => ex_move (e _ _ rfl)) rfl rfl ?_
        refine wl_val (v := .agg #[.int .i64 (gs[k].kind), .int .i64 (gs[k].lit), .slice I1 (gs[k].inp.length) e1]) (fun ρ e => ex_loadN (vs := [.int .i64 (gs[k].kind), .int .i64 (gs[k].lit), .slice I1 (gs[k].inp.length) e1]) ty38 (e _ _ rfl) rfl (O65.cells 1 0 rfl rfl)) rfl rfl ?_
        refine wl_val (v := .agg #[.int .i64 (hs[k].kind), .int .i64 (hs[k].lit), .slice I2 (hs[k].inp.length) e2]) (fun ρ e => ex_loadN (vs := [.int .i64 (hs[k].kind), .int .i64 (hs[k].lit), .slice I2 (hs[k].inp.length) e2]) ty38 (e _ _ rfl) rfl (O65.cells 0 0 rfl rfl)) rfl rfl ?_
        refine wl_callv (args := [.agg #[.int .i64 (gs[k].kind), .int .i64 (gs[k].lit), .slice I1 (gs[k].inp.length) e1], .agg #[.int .i64 (hs[k].kind), .int .i64 (hs[k].lit), .slice I2 (hs[k].inp.length) e2]]) (all := [.agg #[.int .i64 (gs[k].kind), .int .i64 (gs[k].lit), .slice I1 (gs[k].inp.length) e1], .agg #[.int .i64 (hs[k].kind), .int .i64 (hs[k].lit), .slice I2 (hs[k].inp.length) e2]]) in_45 rfl rfl rfl rfl rfl ?_
        refine (same1_ (g := gs[k]) (h := hs[k]) ((hI1.below O65.old).more O65.old.size) ((hI2.below O65.old).more O65.old.size) (hn _ (List.getElem_mem hk)) (hn2 _ (List.getElem_mem hk2))).mono ?_
        rintro _ w68 ⟨rfl, hb69⟩
        have O70 : Own Z0 W w68 [.blk g57 38 #[.int .i64 (hs[k].kind), .int .i64 (hs[k].lit), .slice I2 (hs[k].inp.length) e2], .blk g46 38 #[.int .i64 (gs[k].kind), .int .i64 (gs[k].lit), .slice I1 (gs[k].inp.length) e1]] := O65.below hb69
        rw [hdec]
        refine ⟨_, rfl, ?_⟩
        refine wl_val (v := .bool true) (fun ρ e => ex_lnot (b := false) (e _ _ rfl)) rfl rfl ?_
        refine wl_nil ?_
        refine xw_next K67 ?_
        refine cw_true rfl ?_
        refine cw_seq (fun FK72 K72 => ?_)
        refine cw_region ?_
        refine wl_val (v := .bool false) (fun ρ e => ex_assign (e _ _ rfl)) rfl rfl ?_
        refine wl_nil ?_
        refine xw_next K72 ?_
        refine cw_ret ?_
        refine xw_blockret ?_
        refine xw_past (by intro h; cases h) ?_
        refine xw_past (by intro h; cases h) ?_
        refine xw_blockret ?_
        refine xw_past (by intro h; cases h) ?_
        refine xw_ret (v := .bool false) (fun T hT => res1 rfl T _ (hT 6 _ rfl)) ?_
        exact ⟨by rw [decide_eq_false (fun e => heq (by subst e; rfl))], O70.old⟩
    · have hke : k = gs.length := by omega
      refine cw_seq (fun FK73 K73 => ?_)
      refine cw_region ?_
      refine wl_val (v := .bool false) (fun ρ e => ex_cmp (u := (k : Int)) (v := ((gs.length : Nat) : Int)) (e _ _ rfl) (e _ _ rfl) (lss0 (by omega))) rfl rfl ?_
      refine wl_nil ?_
      refine xw_next K73 ?_
      refine cw_seq (fun FK74 K74 => ?_)
      refine cw_false rfl ?_
      refine cw_exit ?_
      refine xw_past (by intro h; cases h) ?_
      refine xw_past (by intro h; cases h) ?_
      refine xw_here ?_
      refine xw_next K6 ?_
      refine cw_seq (fun FK75 K75 => ?_)
      refine cw_region ?_
      refine wl_val (v := .bool true) (fun ρ e => ex_assign (e _ _ rfl)) rfl rfl ?_
      refine wl_nil ?_
      refine xw_next K75 ?_
      refine cw_ret ?_
      refine xw_ret (v := .bool true) (fun T hT => res1 rfl T _ (hT 6 _ rfl)) ?_
      exact ⟨by rw [decide_eq_true (by rw [hke, List.take_length] at hp; rw [hp, show gs.length = hs.length by omega, List.take_length])], O11.old⟩
theorem csame_ {W : World} {V1 V2 : Value} {N M : Int} {gs hs : List Gate} (hV1 : GatesV W W.heap.size V1 gs) (hV2 : GatesV W W.heap.size V2 hs) (hn : shortG gs) (hn2 : shortG hs) (hl : gs.length ≤ 1000000000) (hl2 : hs.length ≤ 1000000000) : Calls Tryd.prog 21 #[.agg #[.int .i64 N, V1], .agg #[.int .i64 M, V2]] W fun e w' => e = .returned (.bool (decide (N = M ∧ gs = hs))) ∧ Below W.heap.size W w' := by
  have O0 : Own Z0 W W [] := Own.start W
  refine sx_enter (args := [.agg #[.int .i64 N, V1], .agg #[.int .i64 M, V2]]) Tryd.func21 rfl rfl (by simp) ?_
  refine cw_seq (fun FK1 K1 => ?_)
  refine cw_region ?_
  obtain ⟨g2, w3, r4, O5, hg6, hs7⟩ := own_box O0 24 (.agg #[.int .i64 N, V1]) rfl
  refine wl_val (v := .pointer (some ⟨g2, 0, none⟩)) (fun ρ e => r4 ρ _ _ _ _ _ _ (e _ _ rfl)) rfl rfl ?_
  obtain ⟨g8, w9, r10, O11, hg12, hs13⟩ := own_box O5 24 (.agg #[.int .i64 M, V2]) rfl
  refine wl_val (v := .pointer (some ⟨g8, 0, none⟩)) (fun ρ e => r10 ρ _ _ _ _ _ _ (e _ _ rfl)) rfl rfl ?_
  refine wl_val (v := .bool false) (fun ρ e => ex_assign (e _ _ rfl)) rfl rfl ?_
  refine wl_nil ?_
  refine xw_next K1 ?_
  refine cw_seq (fun FK14 K14 => ?_)
  refine cw_region ?_
  refine wl_val (v := .pointer (some ⟨g2, 0, none⟩)) (fun ρ e => ex_field (q := 0) fi24_0 (e _ _ rfl) rfl) rfl rfl ?_
  refine wl_val (v := .int .i64 N) (fun ρ e => ex_load1 ty3 (e _ _ rfl) (O11.cell 1 0 rfl rfl)) rfl rfl ?_
  refine wl_val (v := .pointer (some ⟨g8, 0, none⟩)) (fun ρ e => ex_field (q := 0) fi24_0 (e _ _ rfl) rfl) rfl rfl ?_
  refine wl_val (v := .int .i64 M) (fun ρ e => ex_load1 ty3 (e _ _ rfl) (O11.cell 0 0 rfl rfl)) rfl rfl ?_
  by_cases c15 : N = M
  · skip
    refine wl_val (v := .bool true) (fun ρ e => ex_cmp (u := N) (v := M) (e _ _ rfl) (e _ _ rfl) (eql1 (by omega))) rfl rfl ?_
    refine wl_val (v := .bool true) (fun ρ e => ex_move (e _ _ rfl)) rfl rfl ?_
    refine wl_val (v := .pointer (some ⟨g2, 1, none⟩)) (fun ρ e => ex_field (q := 1) fi24_1 (e _ _ rfl) rfl) rfl rfl ?_
    refine wl_val (v := V1) (fun ρ e => ex_load1 ty22 (e _ _ rfl) (O11.cell 1 1 rfl rfl)) rfl rfl ?_
    refine wl_val (v := .pointer (some ⟨g8, 1, none⟩)) (fun ρ e => ex_field (q := 1) fi24_1 (e _ _ rfl) rfl) rfl rfl ?_
    refine wl_val (v := V2) (fun ρ e => ex_load1 ty22 (e _ _ rfl) (O11.cell 0 1 rfl rfl)) rfl rfl ?_
    refine wl_call (args := [V1, V2, .func (.func 45) #[] #[]]) in_44 rfl rfl rfl ?_
    refine (equalFunc_ ((hV1.below O11.old).more O11.old.size) ((hV2.below O11.old).more O11.old.size) hn hn2 hl hl2).mono ?_
    rintro _ w16 ⟨rfl, hb17⟩
    have O18 : Own Z0 W w16 [.blk g8 24 #[.int .i64 M, V2], .blk g2 24 #[.int .i64 N, V1]] := O11.below hb17
    refine ⟨_, rfl, ?_⟩
    refine wl_val (v := .bool (decide (gs = hs))) (fun ρ e => ex_pick1 (e _ _ rfl) (e _ _ rfl)) rfl rfl ?_
    refine wl_val (v := .bool (decide (gs = hs))) (fun ρ e => ex_assign (e _ _ rfl)) rfl rfl ?_
    refine wl_nil ?_
    refine xw_next K14 ?_
    refine cw_ret ?_
    refine xw_ret (v := .bool (decide (gs = hs))) (fun T hT => res1 rfl T _ (hT 4 _ rfl)) ?_
    exact ⟨by simp [c15], O18.old⟩
  · skip
    refine wl_val (v := .bool false) (fun ρ e => ex_cmp (u := N) (v := M) (e _ _ rfl) (e _ _ rfl) (eql0 (by omega))) rfl rfl ?_
    refine wl_val (v := .bool false) (fun ρ e => ex_move (e _ _ rfl)) rfl rfl ?_
    refine wl_skip rfl rfl ?_
    refine wl_skip rfl rfl ?_
    refine wl_skip rfl rfl ?_
    refine wl_skip rfl rfl ?_
    refine wl_skip rfl rfl ?_
    refine wl_val (v := .bool false) (fun ρ e => ex_pick0 (e _ _ rfl) (e _ _ rfl)) rfl rfl ?_
    refine wl_val (v := .bool false) (fun ρ e => ex_assign (e _ _ rfl)) rfl rfl ?_
    refine wl_nil ?_
    refine xw_next K14 ?_
    refine cw_ret ?_
    refine xw_ret (v := .bool false) (fun T hT => res1 rfl T _ (hT 4 _ rfl)) ?_
    exact ⟨by rw [decide_eq_false (fun e => c15 e.1)], O11.old⟩
theorem lit_ (W : World) (k : Int) : Calls Tryd.prog 28 #[.int .i64 k] W fun e w' => e = .returned (.agg #[.int .i64 2, .int .i64 k, .slice none 0 0]) ∧ Below W.heap.size W w' := by
  have O0 : Own Z0 W W [] := Own.start W
  refine sx_enter (args := [.int .i64 k]) Tryd.func28 rfl rfl (by simp) ?_
  refine cw_seq (fun FK1 K1 => ?_)
  refine cw_region ?_
  obtain ⟨g2, w3, r4, O5, hg6, hs7⟩ := own_alloc O0 38 ze38 rfl
  refine wl_val (v := .pointer (some ⟨g2, 0, none⟩)) (fun ρ e => r4 ρ _ _ _ _ _) rfl rfl ?_
  refine wl_nil ?_
  refine xw_next K1 ?_
  refine cw_seq (fun FK8 K8 => ?_)
  refine cw_region ?_
  refine wl_val (v := .int .i64 k) (fun ρ e => ex_move (e _ _ rfl)) rfl rfl ?_
  refine wl_val (v := .agg #[.int .i64 2, .int .i64 k, .slice none 0 0]) (fun ρ e => ex_build (cells := #[.int .i64 2, .int .i64 k, .slice none 0 0]) st38 (e.parts rfl) rfl) rfl rfl ?_
  obtain ⟨w9, r10, O11, hs12⟩ := own_put (o := 0) (n := 3) O5 ty38 (.agg #[.int .i64 2, .int .i64 k, .slice none 0 0]) [.int .i64 2, .int .i64 k, .slice none 0 0] (cs' := #[.int .i64 2, .int .i64 k, .slice none 0 0]) rfl rfl rfl (Nat.le_of_ble_eq_true rfl) rfl
  refine wl_none (fun ρ e => r10 ρ _ _ _ _ _ _ (e _ _ rfl) (e _ _ rfl)) rfl ?_
  refine wl_nil ?_
  refine xw_next K8 ?_
  refine cw_ret ?_
  refine xw_ret (v := .agg #[.int .i64 2, .int .i64 k, .slice none 0 0]) (fun T hT => res1c rfl T _ (hT 2 _ rfl) (run_loadN (vs := [.int .i64 2, .int .i64 k, .slice none 0 0]) ty38 rfl (O11.cells 0 0 rfl rfl))) ?_
  exact ⟨rfl, O11.old⟩
theorem gate_ (W : World) (k : Int) {A : Option Addr} {n c : Nat} : Calls Tryd.prog 26 #[.int .i64 k, .slice A n c] W fun e w' => e = .returned (.agg #[.int .i64 k, .int .i64 0, .slice A n c]) ∧ Below W.heap.size W w' := by
  have O0 : Own Z0 W W [] := Own.start W
  refine sx_enter (args := [.int .i64 k, .slice A n c]) Tryd.func26 rfl rfl (by simp) ?_
  refine cw_seq (fun FK1 K1 => ?_)
  refine cw_region ?_
  obtain ⟨g2, w3, r4, O5, hg6, hs7⟩ := own_alloc O0 38 ze38 rfl
  refine wl_val (v := .pointer (some ⟨g2, 0, none⟩)) (fun ρ e => r4 ρ _ _ _ _ _) rfl rfl ?_
  refine wl_nil ?_
  refine xw_next K1 ?_
  refine cw_seq (fun FK8 K8 => ?_)
  refine cw_region ?_
  refine wl_val (v := .int .i64 k) (fun ρ e => ex_move (e _ _ rfl)) rfl rfl ?_
  refine wl_val (v := .slice A n c) (fun ρ e => ex_move (e _ _ rfl)) rfl rfl ?_
  refine wl_val (v := .agg #[.int .i64 k, .int .i64 0, .slice A n c]) (fun ρ e => ex_build (cells := #[.int .i64 k, .int .i64 0, .slice A n c]) st38 (e.parts rfl) rfl) rfl rfl ?_
  obtain ⟨w9, r10, O11, hs12⟩ := own_put (o := 0) (n := 3) O5 ty38 (.agg #[.int .i64 k, .int .i64 0, .slice A n c]) [.int .i64 k, .int .i64 0, .slice A n c] (cs' := #[.int .i64 k, .int .i64 0, .slice A n c]) rfl rfl rfl (Nat.le_of_ble_eq_true rfl) rfl
  refine wl_none (fun ρ e => r10 ρ _ _ _ _ _ _ (e _ _ rfl) (e _ _ rfl)) rfl ?_
  refine wl_nil ?_
  refine xw_next K8 ?_
  refine cw_ret ?_
  refine xw_ret (v := .agg #[.int .i64 k, .int .i64 0, .slice A n c]) (fun T hT => res1c rfl T _ (hT 4 _ rfl) (run_loadN (vs := [.int .i64 k, .int .i64 0, .slice A n c]) ty38 rfl (O11.cells 0 0 rfl rfl))) ?_
  exact ⟨rfl, O11.old⟩
theorem circuit_ (W : World) (k : Int) {A : Option Addr} {n c : Nat} : Calls Tryd.prog 25 #[.int .i64 k, .slice A n c] W fun e w' => e = .returned (.agg #[.int .i64 k, .slice A n c]) ∧ Below W.heap.size W w' := by
  have O0 : Own Z0 W W [] := Own.start W
  refine sx_enter (args := [.int .i64 k, .slice A n c]) Tryd.func25 rfl rfl (by simp) ?_
  refine cw_seq (fun FK1 K1 => ?_)
  refine cw_region ?_
  obtain ⟨g2, w3, r4, O5, hg6, hs7⟩ := own_alloc O0 24 ze24 rfl
  refine wl_val (v := .pointer (some ⟨g2, 0, none⟩)) (fun ρ e => r4 ρ _ _ _ _ _) rfl rfl ?_
  refine wl_nil ?_
  refine xw_next K1 ?_
  refine cw_seq (fun FK8 K8 => ?_)
  refine cw_region ?_
  refine wl_val (v := .int .i64 k) (fun ρ e => ex_move (e _ _ rfl)) rfl rfl ?_
  refine wl_val (v := .slice A n c) (fun ρ e => ex_move (e _ _ rfl)) rfl rfl ?_
  refine wl_val (v := .agg #[.int .i64 k, .slice A n c]) (fun ρ e => ex_build (cells := #[.int .i64 k, .slice A n c]) st24 (e.parts rfl) rfl) rfl rfl ?_
  obtain ⟨w9, r10, O11, hs12⟩ := own_put (o := 0) (n := 2) O5 ty24 (.agg #[.int .i64 k, .slice A n c]) [.int .i64 k, .slice A n c] (cs' := #[.int .i64 k, .slice A n c]) rfl rfl rfl (Nat.le_of_ble_eq_true rfl) rfl
  refine wl_none (fun ρ e => r10 ρ _ _ _ _ _ _ (e _ _ rfl) (e _ _ rfl)) rfl ?_
  refine wl_nil ?_
  refine xw_next K8 ?_
  refine cw_ret ?_
  refine xw_ret (v := .agg #[.int .i64 k, .slice A n c]) (fun T hT => res1c rfl T _ (hT 4 _ rfl) (run_loadN (vs := [.int .i64 k, .slice A n c]) ty24 rfl (O11.cells 0 0 rfl rfl))) ?_
  exact ⟨rfl, O11.old⟩
theorem folds_ {W : World} {V1 V2 : Value} {N M : Int} {gs hs : List Gate} (hV1 : GatesV W W.heap.size V1 gs) (hV2 : GatesV W W.heap.size V2 hs) (hsz : sizeOf gs ≤ 4611686018427387904) (tab : Tab W) (hn2 : shortG hs) (hl2 : hs.length ≤ 1000000000) : Calls Tryd.prog 27 #[.agg #[.int .i64 N, V1], .agg #[.int .i64 M, V2]] W fun e w' => e = .returned (.bool (decide (checkOf N gs = 0 ∧ N = M ∧ foldOf gs = hs))) ∧ Below W.heap.size W w' := by
  have O0 : Own Z0 W W [] := Own.start W
  refine sx_enter (args := [.agg #[.int .i64 N, V1], .agg #[.int .i64 M, V2]]) Tryd.func27 rfl rfl (by simp) ?_
  refine cw_seq (fun FK1 K1 => ?_)
  refine cw_region ?_
  obtain ⟨g2, w3, r4, O5, hg6, hs7⟩ := own_box O0 24 (.agg #[.int .i64 N, V1]) rfl
  refine wl_val (v := .pointer (some ⟨g2, 0, none⟩)) (fun ρ e => r4 ρ _ _ _ _ _ _ (e _ _ rfl)) rfl rfl ?_
  obtain ⟨g8, w9, r10, O11, hg12, hs13⟩ := own_box O5 24 (.agg #[.int .i64 M, V2]) rfl
  refine wl_val (v := .pointer (some ⟨g8, 0, none⟩)) (fun ρ e => r10 ρ _ _ _ _ _ _ (e _ _ rfl)) rfl rfl ?_
  refine wl_val (v := .bool false) (fun ρ e => ex_assign (e _ _ rfl)) rfl rfl ?_
  refine wl_nil ?_
  refine xw_next K1 ?_
  refine cw_seq (fun FK14 K14 => ?_)
  refine cw_region ?_
  refine wl_val (v := .agg #[.int .i64 N, V1]) (fun ρ e => ex_loadN (vs := [.int .i64 N, V1]) ty24 (e _ _ rfl) rfl (O11.cells 1 0 rfl rfl)) rfl rfl ?_
  have h15 := fold_ (N := N) ((hV1.below O11.old).more O11.old.size) hsz (tab.below (Nat.le_refl _) O11.old)
  by_cases c16 : checkOf N gs = 0
  · skip
    have hc := c16
    refine wl_call (args := [.agg #[.int .i64 N, V1]]) in_18 rfl rfl rfl ?_
    refine h15.mono ?_
    intro _ w17 hq
    obtain ⟨_, A18, c19, D20, vo21, rfl, ho22, hd23⟩ := hq.resolve_left (fun z => z.1 hc)
    have O24 : Own Z0 W w17 [.row (.slice A18 ((foldOf gs).length) c19) 38 3 ((foldOf gs).length) (gcells (foldOf gs) vo21), .ro D20 (OwnIns D20 (foldOf gs) vo21), .blk g8 24 #[.int .i64 M, V2], .blk g2 24 #[.int .i64 N, V1]] := Own.joinr O11 ho22 (fun e he => by rcases List.mem_cons.1 he with rfl | he; exact .inl trivial; exact .inr (by rw [List.mem_singleton.1 he]; exact hd23))
    refine ⟨_, rfl, ?_⟩
    refine wl_val (v := .tuple #[.agg #[.int .i64 N, .slice A18 ((foldOf gs).length) c19], .int .i64 0]) (fun ρ e => ex_move (e _ _ rfl)) rfl rfl ?_
    refine wl_val (v := .agg #[.int .i64 N, .slice A18 ((foldOf gs).length) c19]) (fun ρ e => ex_extract (vs := #[.agg #[.int .i64 N, .slice A18 ((foldOf gs).length) c19], .int .i64 0]) (e _ _ rfl) rfl) rfl rfl ?_
    refine wl_val (v := .int .i64 0) (fun ρ e => ex_extract (vs := #[.agg #[.int .i64 N, .slice A18 ((foldOf gs).length) c19], .int .i64 0]) (e _ _ rfl) rfl) rfl rfl ?_
    obtain ⟨g25, w26, r27, O28, hg29, hs30⟩ := own_alloc O24 24 ze24 rfl
    refine wl_val (v := .pointer (some ⟨g25, 0, none⟩)) (fun ρ e => r27 ρ _ _ _ _ _) rfl rfl ?_
    obtain ⟨w31, r32, O33, hs34⟩ := own_put (o := 0) (n := 2) O28 ty24 (.agg #[.int .i64 N, .slice A18 ((foldOf gs).length) c19]) [.int .i64 N, .slice A18 ((foldOf gs).length) c19] (cs' := #[.int .i64 N, .slice A18 ((foldOf gs).length) c19]) rfl rfl rfl (Nat.le_of_ble_eq_true rfl) rfl
    refine wl_none (fun ρ e => r32 ρ _ _ _ _ _ _ (e _ _ rfl) (e _ _ rfl)) rfl ?_
    refine wl_val (v := .int .i64 0) (fun ρ e => ex_assign (e _ _ rfl)) rfl rfl ?_
    refine wl_nil ?_
    refine xw_next K14 ?_
    refine cw_seq (fun FK35 K35 => ?_)
    refine cw_region ?_
    refine wl_val (v := .int .i64 0) (fun ρ e => ex_move (e _ _ rfl)) rfl rfl ?_
    refine wl_val (v := .bool true) (fun ρ e => ex_cmp (u := 0) (v := 0) (e _ _ rfl) (e _ _ rfl) (eql1 (by omega))) rfl rfl ?_
    refine wl_val (v := .bool true) (fun ρ e => ex_move (e _ _ rfl)) rfl rfl ?_
    refine wl_val (v := .agg #[.int .i64 N, .slice A18 ((foldOf gs).length) c19]) (fun ρ e => ex_loadN (vs := [.int .i64 N, .slice A18 ((foldOf gs).length) c19]) ty24 (e _ _ rfl) rfl (O33.cells 0 0 rfl rfl)) rfl rfl ?_
    refine wl_val (v := .agg #[.int .i64 M, V2]) (fun ρ e => ex_loadN (vs := [.int .i64 M, V2]) ty24 (e _ _ rfl) rfl (O33.cells 3 0 rfl rfl)) rfl rfl ?_
    refine wl_call (args := [.agg #[.int .i64 N, .slice A18 ((foldOf gs).length) c19], .agg #[.int .i64 M, V2]]) in_21 rfl rfl rfl ?_
    refine (csame_ (M := M) (gates_of_own (O33.row 1 rfl) (O33.ro 2 rfl) (O33.get 2 rfl).2.1) ((hV2.below O33.old).more O33.old.size) (foldOf_short hc) hn2 (foldOf_len hc) hl2).mono ?_
    rintro _ w36 ⟨rfl, hb37⟩
    have O38 : Own Z0 W w36 [.blk g25 24 #[.int .i64 N, .slice A18 ((foldOf gs).length) c19], .row (.slice A18 ((foldOf gs).length) c19) 38 3 ((foldOf gs).length) (gcells (foldOf gs) vo21), .ro D20 (OwnIns D20 (foldOf gs) vo21), .blk g8 24 #[.int .i64 M, V2], .blk g2 24 #[.int .i64 N, V1]] := O33.below hb37
    refine ⟨_, rfl, ?_⟩
    refine wl_val (v := .bool (decide (N = M ∧ foldOf gs = hs))) (fun ρ e => ex_pick1 (e _ _ rfl) (e _ _ rfl)) rfl rfl ?_
    refine wl_val (v := .bool (decide (N = M ∧ foldOf gs = hs))) (fun ρ e => ex_assign (e _ _ rfl)) rfl rfl ?_
    refine wl_nil ?_
    refine xw_next K35 ?_
    refine cw_ret ?_
    refine xw_ret (v := .bool (decide (N = M ∧ foldOf gs = hs))) (fun T hT => res1 rfl T _ (hT 4 _ rfl)) ?_
    exact ⟨by simp [hc], O38.old⟩
  · skip
    have hc := c16
    refine wl_call (args := [.agg #[.int .i64 N, V1]]) in_18 rfl rfl rfl ?_
    refine h15.mono ?_
    intro _ w39 hq
    obtain ⟨_, rfl, hb40⟩ := hq.resolve_right (fun z => hc z.1)
    have O41 : Own Z0 W w39 [.blk g8 24 #[.int .i64 M, V2], .blk g2 24 #[.int .i64 N, V1]] := O11.below hb40
    refine ⟨_, rfl, ?_⟩
    refine wl_val (v := .tuple #[.agg #[.int .i64 0, .slice none 0 0], .int .i64 (checkOf N gs)]) (fun ρ e => ex_move (e _ _ rfl)) rfl rfl ?_
    refine wl_val (v := .agg #[.int .i64 0, .slice none 0 0]) (fun ρ e => ex_extract (vs := #[.agg #[.int .i64 0, .slice none 0 0], .int .i64 (checkOf N gs)]) (e _ _ rfl) rfl) rfl rfl ?_
    refine wl_val (v := .int .i64 (checkOf N gs)) (fun ρ e => ex_extract (vs := #[.agg #[.int .i64 0, .slice none 0 0], .int .i64 (checkOf N gs)]) (e _ _ rfl) rfl) rfl rfl ?_
    obtain ⟨g42, w43, r44, O45, hg46, hs47⟩ := own_alloc O41 24 ze24 rfl
    refine wl_val (v := .pointer (some ⟨g42, 0, none⟩)) (fun ρ e => r44 ρ _ _ _ _ _) rfl rfl ?_
    obtain ⟨w48, r49, O50, hs51⟩ := own_put (o := 0) (n := 2) O45 ty24 (.agg #[.int .i64 0, .slice none 0 0]) [.int .i64 0, .slice none 0 0] (cs' := #[.int .i64 0, .slice none 0 0]) rfl rfl rfl (Nat.le_of_ble_eq_true rfl) rfl
    refine wl_none (fun ρ e => r49 ρ _ _ _ _ _ _ (e _ _ rfl) (e _ _ rfl)) rfl ?_
    refine wl_val (v := .int .i64 (checkOf N gs)) (fun ρ e => ex_assign (e _ _ rfl)) rfl rfl ?_
    refine wl_nil ?_
    refine xw_next K14 ?_
    refine cw_seq (fun FK52 K52 => ?_)
    refine cw_region ?_
    refine wl_val (v := .int .i64 (checkOf N gs)) (fun ρ e => ex_move (e _ _ rfl)) rfl rfl ?_
    refine wl_val (v := .bool false) (fun ρ e => ex_cmp (u := (checkOf N gs)) (v := 0) (e _ _ rfl) (e _ _ rfl) (eql0 c16)) rfl rfl ?_
    refine wl_val (v := .bool false) (fun ρ e => ex_move (e _ _ rfl)) rfl rfl ?_
    refine wl_skip rfl rfl ?_
    refine wl_skip rfl rfl ?_
    refine wl_skip rfl rfl ?_
    refine wl_val (v := .bool false) (fun ρ e => ex_pick0 (e _ _ rfl) (e _ _ rfl)) rfl rfl ?_
    refine wl_val (v := .bool false) (fun ρ e => ex_assign (e _ _ rfl)) rfl rfl ?_
    refine wl_nil ?_
    refine xw_next K52 ?_
    refine cw_ret ?_
    refine xw_ret (v := .bool false) (fun T hT => res1 rfl T _ (hT 4 _ rfl)) ?_
    exact ⟨by rw [decide_eq_false (fun e => hc e.1)], O50.old⟩
end Go.Proofs.YtbemhgojfehnjaaDoor
namespace Go.Proofs.YtbemhgojfehnjaaDoor
open Go Go.RowKit
theorem Ins.nil (D : Nat → Prop) (w : World) : Ins D [] [] w := ⟨rfl, fun i g v h => by simp at h⟩
theorem Ins.cons {D : Nat → Prop} {w : World} {g : Gate} {v : Value} {L : List Gate} {vs : List Value} (h : IntsD D w v g.inp) (hs : Ins D L vs w) : Ins D (g :: L) (v :: vs) w := by
  refine ⟨by simp [hs.1], fun i g' v' h1 h2 => ?_⟩
  cases i with
  | zero =>
    simp at h1 h2
    subst h1 h2
    exact h
  | succ i => exact hs.2 i g' v' (by simpa using h1) (by simpa using h2)
theorem gates_nil (w : World) (B : Nat) : GatesV w B (.slice none 0 0) [] := ⟨none, 0, rfl, Nat.le_refl _, Nat.zero_le _, fun h => absurd h (Nat.lt_irrefl _)⟩
end Go.Proofs.YtbemhgojfehnjaaDoor
namespace Go.Proofs.YtbemhgojfehnjaaDoor
open Go Go.RowKit
/-- What is appended. -/
def Src (w : World) (A : Option Addr) (m : Nat) (news : List Value) : Prop := (A = none ∧ m = 0 ∧ news = []) ∨ ∃ a, A = some a ∧ ∀ j u, news[j]? = some u → w.cell? (a.add j) = some u
section
variable {Z : Bool → Nat → Prop} {w0 w W : World} {L : List En}
theorem run_append_nil {te e size bytes : Nat} {z : Value} (E : El te e size bytes z) (ty : TypeId) (b : Option Addr) (k c c2 : Nat) (h : k ≤ c) : (Builtin.append_ #[te, te] ty #[.slice b k c, .slice none 0 c2]).run Tryd.prog w = .ok (.slice b k c) w := by
  obtain ⟨i, hi, hz, hsz, hb⟩ := info_parts E.info
  cases b <;> simp [Builtin.append_, run_underlying E.under, Go.sizeOf, typeInfo, hi, Builtin.lenOf, h, Builtin.firstCells, storeCells]
theorem own_appS {te e : TypeId} {size bytes : Nat} {z v : Value} {k m c : Nat} {A : Option Addr} {xs news : List Value} (hO : Own Z w0 w (.row v e size k xs :: L)) (E : El te e size bytes z) (hl : news.length = m * size) (hs : Src w A m news) (h1 : ∀ u ∈ news, u.oneCell' = true) (hlen : (k + m) * bytes ≤ 140737488355328) (hn : k + m ≤ 1099511627776) {ys : List Value} (hy : xs ++ news = ys) :
    ∃ A' c' w', (∀ (ρ : Operand → Value) x y d t pos aft gd, ρ x = v → ρ y = .slice A m c → (execOp ρ ⟨d, .call ⟨.builtin .append, #[x, y], #[te, te]⟩, t, pos, aft, gd⟩).run Tryd.prog w = .ok (.value (.slice A' (k + m) c')) w') ∧
      Own Z w0 w' (.row (.slice A' (k + m) c') e size (k + m) ys :: L) ∧ w.heap.size ≤ w'.heap.size := by
  rcases hs with ⟨rfl, rfl, rfl⟩ | ⟨a, rfl, hnews⟩
  · have hr := hO.row 0 rfl
    obtain ⟨b, c', rfl⟩ := own_form hr
    have hc := row_cap hr
    subst hy
    refine ⟨b, c', w, fun ρ x y d t pos aft gd hx hy => exec_append hx hy (run_append_nil E t b k c' c hc), ?_, Nat.le_refl _⟩
    rw [List.append_nil]
    exact hO
  · exact own_appN hO E hl hnews h1 hlen hn hy
theorem ints_src {B n c : Nat} {A : Option Addr} {xs : List Int} (h : IntsV w B (.slice A n c) xs) {W : World} (hb : Below B w W) : Src W A n (intCs xs) := by
  cases A with
  | none =>
    have hx := h.nilOf
    subst hx
    obtain ⟨A, c', hv, _⟩ := h
    injection hv with _ h2 _
    exact .inl ⟨rfl, h2, rfl⟩
  | some a => exact .inr ⟨a, rfl, h.cellsAt hb⟩
theorem gcells_len : ∀ (L : List Gate) (vs : List Value), L.length = vs.length → (gcells L vs).length = L.length * 3
  | [], _, _ => rfl
  | _ :: _, [], h => by cases h
  | g :: L, v :: vs, h => by
    show (gcell g v ++ gcells L vs).length = _
    rw [List.length_append, gcells_len L vs (by simpa using h)]
    simp [gcell]; omega
end
end Go.Proofs.YtbemhgojfehnjaaDoor
namespace Go.Proofs.YtbemhgojfehnjaaDoor
open Go Go.RowKit
theorem rsame_ {W : World} {V1 V2 : Value} {xs ys : List Int} (hV1 : IntsV W W.heap.size V1 xs) (hV2 : IntsV W W.heap.size V2 ys) (hn : xs.length ≤ 1000000000) (hn2 : ys.length ≤ 1000000000) : Calls Tryd.prog 73 #[V1, V2] W fun e w' => e = .returned (.bool (decide (xs = ys))) ∧ Below W.heap.size W w' := by
  obtain ⟨A1, c1, rfl, _, _, _⟩ := id hV1
  obtain ⟨A2, c2, rfl, _, _, _⟩ := id hV2
  have O0 : Own Z0 W W [] := Own.start W
  refine sx_enter (args := [.slice A1 xs.length c1, .slice A2 ys.length c2]) Tryd.func73 rfl rfl (by simp) ?_
  refine cw_seq (fun FK1 K1 => ?_)
  refine cw_region ?_
  refine wl_val (v := .bool false) (fun ρ e => ex_assign (e _ _ rfl)) rfl rfl ?_
  refine wl_nil ?_
  refine xw_next K1 ?_
  refine cw_seq (fun FK2 K2 => ?_)
  refine cw_seq (fun FK3 K3 => ?_)
  refine cw_region ?_
  refine wl_val (v := .slice A1 xs.length c1) (fun ρ e => ex_move (e _ _ rfl)) rfl rfl ?_
  refine wl_val (v := .int .i64 ((xs.length : Nat) : Int)) (fun ρ e => ex_len el36 (e _ _ rfl)) rfl rfl ?_
  refine wl_val (v := .slice A2 ys.length c2) (fun ρ e => ex_move (e _ _ rfl)) rfl rfl ?_
  refine wl_val (v := .int .i64 ((ys.length : Nat) : Int)) (fun ρ e => ex_len el36 (e _ _ rfl)) rfl rfl ?_
  by_cases c4 : ((xs.length : Nat) : Int) ≠ ((ys.length : Nat) : Int)
  · skip
    refine wl_val (v := .bool true) (fun ρ e => ex_cmp (u := ((xs.length : Nat) : Int)) (v := ((ys.length : Nat) : Int)) (e _ _ rfl) (e _ _ rfl) (neq1 (by omega))) rfl rfl ?_
    refine wl_nil ?_
    refine xw_next K3 ?_
    refine cw_true rfl ?_
    refine cw_seq (fun FK5 K5 => ?_)
    refine cw_region ?_
    refine wl_val (v := .bool false) (fun ρ e => ex_assign (e _ _ rfl)) rfl rfl ?_
    refine wl_nil ?_
    refine xw_next K5 ?_
    refine cw_ret ?_
    refine xw_past (by intro h; cases h) ?_
    refine xw_ret (v := .bool false) (fun T hT => res1 rfl T _ (hT 4 _ rfl)) ?_
    exact ⟨by rw [decide_eq_false (fun e => c4 (by rw [e]))], O0.old⟩
  · skip
    have hlen : xs.length = ys.length := by omega
    refine wl_val (v := .bool false) (fun ρ e => ex_cmp (u := ((xs.length : Nat) : Int)) (v := ((ys.length : Nat) : Int)) (e _ _ rfl) (e _ _ rfl) (neq0 (by omega))) rfl rfl ?_
    refine wl_nil ?_
    refine xw_next K3 ?_
    refine cw_false rfl ?_
    refine cw_skip ?_
    refine xw_next K2 ?_
    refine cw_seq (fun FK6 K6 => ?_)
    refine cw_seq (fun FK7 K7 => ?_)
    refine cw_region ?_
    refine wl_val (v := .int .i64 0) (fun ρ e => ex_assign (e _ _ rfl)) rfl rfl ?_
    refine wl_nil ?_
    refine xw_next K7 ?_
    refine cw_block ?_
    refine cw_loop (ι := Nat) (fun q => [(0, .slice A1 xs.length c1), (1, .slice A2 ys.length c2), (5, .int .i64 (q : Int))]) (fun q X => (q ≤ xs.length) ∧ (xs.take q = ys.take q) ∧ Own Z0 W X []) (fun q => xs.length - q) 0 ⟨Nat.zero_le _, rfl, O0⟩ ⟨rfl, rfl, rfl, trivial⟩ (fun q w8 hJ F9 K10 => ?_)
    obtain ⟨k, rfl⟩ : ∃ x, x = q := ⟨_, rfl⟩
    obtain ⟨hk0, hp, O11⟩ := hJ
    try dsimp only at hk0 hp O11 ⊢
    by_cases hk : k < xs.length
    · obtain ⟨x, hxk, hdx, _⟩ := drop_cons hk
      obtain ⟨y, hyk, hdy, _⟩ := drop_cons (show k < ys.length by omega)
      obtain ⟨b1, o1, d1, hb1⟩ := (IntsD.of_V hV1).form (by omega)
      obtain ⟨b2, o2, d2, hb2⟩ := (IntsD.of_V hV2).form (by omega)
      refine cw_seq (fun FK12 K12 => ?_)
      refine cw_seq (fun FK13 K13 => ?_)
      refine cw_region ?_
      refine wl_val (v := .int .i64 (k : Int)) (fun ρ e => ex_move (e _ _ rfl)) rfl rfl ?_
      refine wl_val (v := .slice A1 xs.length c1) (fun ρ e => ex_move (e _ _ rfl)) rfl rfl ?_
      refine wl_val (v := .int .i64 ((xs.length : Nat) : Int)) (fun ρ e => ex_len el36 (e _ _ rfl)) rfl rfl ?_
      refine wl_val (v := .bool true) (fun ρ e => ex_cmp (u := (k : Int)) (v := ((xs.length : Nat) : Int)) (e _ _ rfl) (e _ _ rfl) (lss1 (by omega))) rfl rfl ?_
      refine wl_nil ?_
      refine xw_next K13 ?_
      refine cw_true rfl ?_
      refine cw_skip ?_
      refine xw_next K12 ?_
      refine cw_seq (fun FK14 K14 => ?_)
      refine cw_block ?_
      refine cw_seq (fun FK15 K15 => ?_)
      refine cw_drawn (fun X => Own Z0 W X []) 9 [(0, 1), (1, 1), (2, 1), (3, 0), (4, 1), (5, 1), (6, 1), (7, 0), (8, 1)] (by kernel_rfl) (by kernel_rfl) (PQ.then_ (PQ.block (PQ.then_ (PQ.then_ (PQ.block (PQ.then_ PQ.body)))))) (O11).drew ?_
      have O16 : Own Z0 W w8.drew [] := O11.drew
      refine wt1 (v := .slice A1 xs.length c1) rfl (fun ρ e W => ex_move (e _ _ rfl)) rfl rfl ?_
      refine wt1 (v := .int .i64 (k : Int)) rfl (fun ρ e W => ex_move (e _ _ rfl)) rfl rfl ?_
      refine wt1 (v := .pointer (some ⟨b1, o1 + k, none⟩)) rfl (fun ρ e W => ex_idx (q := o1 + k) (o := o1) (i := k) el36 ((e _ _ rfl).trans hb1) (e _ _ rfl) (by omega) (by omega)) rfl rfl ?_
      refine wt0 (v := .int .i64 x) rfl (fun ρ e W hW => ex_load1 ty3 (e _ _ rfl) (((hV1.below hW.old).at1 hb1 (by omega) hxk))) rfl rfl ?_
      refine wt1 (v := .slice A2 ys.length c2) rfl (fun ρ e W => ex_move (e _ _ rfl)) rfl rfl ?_
      refine wt1 (v := .int .i64 (k : Int)) rfl (fun ρ e W => ex_move (e _ _ rfl)) rfl rfl ?_
      refine wt1 (v := .pointer (some ⟨b2, o2 + k, none⟩)) rfl (fun ρ e W => ex_idx (q := o2 + k) (o := o2) (i := k) el36 ((e _ _ rfl).trans hb2) (e _ _ rfl) (by omega) (by omega)) rfl rfl ?_
      refine wt0 (v := .int .i64 y) rfl (fun ρ e W hW => ex_load1 ty3 (e _ _ rfl) (((hV2.below hW.old).at1 hb2 (by omega) hyk))) rfl rfl ?_
      by_cases c17 : x ≠ y
      · skip
        refine wt1 (v := .bool true) rfl (fun ρ e W => ex_cmp (u := x) (v := y) (e _ _ rfl) (e _ _ rfl) (neq1 (by omega))) rfl rfl ?_
        refine wt_nil ?_
        refine xw_next K15 ?_
        refine cw_true rfl ?_
        refine cw_seq (fun FK18 K18 => ?_)
        refine cw_region ?_
        refine wl_val (v := .bool false) (fun ρ e => ex_assign (e _ _ rfl)) rfl rfl ?_
        refine wl_nil ?_
        refine xw_next K18 ?_
        refine cw_ret ?_
        refine xw_blockret ?_
        refine xw_past (by intro h; cases h) ?_
        refine xw_past (by intro h; cases h) ?_
        refine xw_blockret ?_
        refine xw_past (by intro h; cases h) ?_
        refine xw_ret (v := .bool false) (fun T hT => res1 rfl T _ (hT 4 _ rfl)) ?_
        exact ⟨by rw [decide_eq_false (fun e => c17 (by subst e; rw [hxk] at hyk; exact Option.some.inj hyk))], O16.old⟩
      · skip
        have c17e : y = x := by omega
        refine wt1 (v := .bool false) rfl (fun ρ e W => ex_cmp (u := x) (v := y) (e _ _ rfl) (e _ _ rfl) (neq0 (by omega))) rfl rfl ?_
        refine wt_nil ?_
        refine xw_next K15 ?_
        refine cw_false rfl ?_
        refine cw_skip ?_
        refine xw_block ?_
        refine xw_next K14 ?_
        refine cw_region ?_
        refine wl_val (v := .int .i64 (k : Int)) (fun ρ e => ex_move (e _ _ rfl)) rfl rfl ?_
        refine wl_val (v := .int .i64 ((k + 1 : Nat) : Int)) (fun ρ e => ex_arith (k := .i64) (u := (k : Int)) (v := 1) (e _ _ rfl) (e _ _ rfl) (congrArg some ((congrArg _ (by omega)).trans (wrap_in (u := ((k + 1 : Nat) : Int)) (by omega) (by omega))))) rfl rfl ?_
        refine wl_val (v := .int .i64 ((k + 1 : Nat) : Int)) (fun ρ e => ex_assign (e _ _ rfl)) rfl rfl ?_
        refine wl_nil ?_
        refine xw_round K10 (k + 1) (by show xs.length - (k + 1) < xs.length - k; omega) ⟨(by show k + 1 ≤ _; omega), (take_snoc hp hxk (c17e ▸ hyk)), O16⟩ ⟨rfl, rfl, rfl, trivial⟩
    · have hke : k = xs.length := by omega
      refine cw_seq (fun FK19 K19 => ?_)
      refine cw_seq (fun FK20 K20 => ?_)
      refine cw_region ?_
      refine wl_val (v := .int .i64 (k : Int)) (fun ρ e => ex_move (e _ _ rfl)) rfl rfl ?_
      refine wl_val (v := .slice A1 xs.length c1) (fun ρ e => ex_move (e _ _ rfl)) rfl rfl ?_
      refine wl_val (v := .int .i64 ((xs.length : Nat) : Int)) (fun ρ e => ex_len el36 (e _ _ rfl)) rfl rfl ?_
      refine wl_val (v := .bool false) (fun ρ e => ex_cmp (u := (k : Int)) (v := ((xs.length : Nat) : Int)) (e _ _ rfl) (e _ _ rfl) (lss0 (by omega))) rfl rfl ?_
      refine wl_nil ?_
      refine xw_next K20 ?_
      refine cw_false rfl ?_
      refine cw_exit ?_
      refine xw_past (by intro h; cases h) ?_
      refine xw_past (by intro h; cases h) ?_
      refine xw_here ?_
      refine xw_next K6 ?_
      refine cw_seq (fun FK21 K21 => ?_)
      refine cw_region ?_
      refine wl_val (v := .bool true) (fun ρ e => ex_assign (e _ _ rfl)) rfl rfl ?_
      refine wl_nil ?_
      refine xw_next K21 ?_
      refine cw_ret ?_
      refine xw_ret (v := .bool true) (fun T hT => res1 rfl T _ (hT 4 _ rfl)) ?_
      exact ⟨by rw [decide_eq_true (by rw [hke, List.take_length] at hp; rw [hp, show xs.length = ys.length by omega, List.take_length])], O11.old⟩
theorem requal_ {W : World} {V1 V2 : Value} {g h : Gate} (hV1 : IntsV W W.heap.size V1 g.inp) (hV2 : IntsV W W.heap.size V2 h.inp) (hn : g.inp.length ≤ 1000000000) (hn2 : h.inp.length ≤ 1000000000) : Calls Tryd.prog 43 #[.agg #[.int .i64 g.kind, .int .i64 g.lit, V1], .agg #[.int .i64 h.kind, .int .i64 h.lit, V2]] W fun e w' => e = .returned (.bool (decide (g = h))) ∧ Below W.heap.size W w' := by
  have O0 : Own Z0 W W [] := Own.start W
  refine sx_enter (args := [.agg #[.int .i64 g.kind, .int .i64 g.lit, V1], .agg #[.int .i64 h.kind, .int .i64 h.lit, V2]]) Tryd.func43 rfl rfl (by simp) ?_
  refine cw_seq (fun FK1 K1 => ?_)
  refine cw_region ?_
  obtain ⟨g2, w3, r4, O5, hg6, hs7⟩ := own_box O0 38 (.agg #[.int .i64 g.kind, .int .i64 g.lit, V1]) rfl
  refine wl_val (v := .pointer (some ⟨g2, 0, none⟩)) (fun ρ e => r4 ρ _ _ _ _ _ _ (e _ _ rfl)) rfl rfl ?_
  obtain ⟨g8, w9, r10, O11, hg12, hs13⟩ := own_box O5 38 (.agg #[.int .i64 h.kind, .int .i64 h.lit, V2]) rfl
  refine wl_val (v := .pointer (some ⟨g8, 0, none⟩)) (fun ρ e => r10 ρ _ _ _ _ _ _ (e _ _ rfl)) rfl rfl ?_
  refine wl_val (v := .bool false) (fun ρ e => ex_assign (e _ _ rfl)) rfl rfl ?_
  refine wl_nil ?_
  refine xw_next K1 ?_
  refine cw_seq (fun FK14 K14 => ?_)
  refine cw_region ?_
  refine wl_val (v := .pointer (some ⟨g2, 0, none⟩)) (fun ρ e => ex_field (q := 0) fi38_0 (e _ _ rfl) rfl) rfl rfl ?_
  refine wl_val (v := .int .i64 g.kind) (fun ρ e => ex_load1 ty3 (e _ _ rfl) (O11.cell 1 0 rfl rfl)) rfl rfl ?_
  refine wl_val (v := .pointer (some ⟨g8, 0, none⟩)) (fun ρ e => ex_field (q := 0) fi38_0 (e _ _ rfl) rfl) rfl rfl ?_
  refine wl_val (v := .int .i64 h.kind) (fun ρ e => ex_load1 ty3 (e _ _ rfl) (O11.cell 0 0 rfl rfl)) rfl rfl ?_
  by_cases c15 : g.kind = h.kind
  · skip
    refine wl_val (v := .bool true) (fun ρ e => ex_cmp (u := g.kind) (v := h.kind) (e _ _ rfl) (e _ _ rfl) (eql1 (by omega))) rfl rfl ?_
    refine wl_val (v := .bool true) (fun ρ e => ex_move (e _ _ rfl)) rfl rfl ?_
    refine wl_val (v := .pointer (some ⟨g2, 1, none⟩)) (fun ρ e => ex_field (q := 1) fi38_1 (e _ _ rfl) rfl) rfl rfl ?_
    refine wl_val (v := .int .i64 g.lit) (fun ρ e => ex_load1 ty3 (e _ _ rfl) (O11.cell 1 1 rfl rfl)) rfl rfl ?_
    refine wl_val (v := .pointer (some ⟨g8, 1, none⟩)) (fun ρ e => ex_field (q := 1) fi38_1 (e _ _ rfl) rfl) rfl rfl ?_
    refine wl_val (v := .int .i64 h.lit) (fun ρ e => ex_load1 ty3 (e _ _ rfl) (O11.cell 0 1 rfl rfl)) rfl rfl ?_
    by_cases c16 : g.lit = h.lit
    · skip
      refine wl_val (v := .bool true) (fun ρ e => ex_cmp (u := g.lit) (v := h.lit) (e _ _ rfl) (e _ _ rfl) (eql1 (by omega))) rfl rfl ?_
      refine wl_val (v := .bool true) (fun ρ e => ex_pick1 (e _ _ rfl) (e _ _ rfl)) rfl rfl ?_
      refine wl_val (v := .bool true) (fun ρ e => ex_move (e _ _ rfl)) rfl rfl ?_
      refine wl_val (v := .pointer (some ⟨g2, 2, none⟩)) (fun ρ e => ex_field (q := 2) fi38_2 (e _ _ rfl) rfl) rfl rfl ?_
      refine wl_val (v := V1) (fun ρ e => ex_load1 ty36 (e _ _ rfl) (O11.cell 1 2 rfl rfl)) rfl rfl ?_
      refine wl_val (v := .pointer (some ⟨g8, 2, none⟩)) (fun ρ e => ex_field (q := 2) fi38_2 (e _ _ rfl) rfl) rfl rfl ?_
      refine wl_val (v := V2) (fun ρ e => ex_load1 ty36 (e _ _ rfl) (O11.cell 0 2 rfl rfl)) rfl rfl ?_
      refine wl_call (args := [V1, V2]) in_73 rfl rfl rfl ?_
      refine (rsame_ ((hV1.below O11.old).more O11.old.size) ((hV2.below O11.old).more O11.old.size) hn hn2).mono ?_
      rintro _ w17 ⟨rfl, hb18⟩
      have O19 : Own Z0 W w17 [.blk g8 38 #[.int .i64 h.kind, .int .i64 h.lit, V2], .blk g2 38 #[.int .i64 g.kind, .int .i64 g.lit, V1]] := O11.below hb18
      refine ⟨_, rfl, ?_⟩
      refine wl_val (v := .bool (decide (g.inp = h.inp))) (fun ρ e => ex_pick1 (e _ _ rfl) (e _ _ rfl)) rfl rfl ?_
      refine wl_val (v := .bool (decide (g.inp = h.inp))) (fun ρ e => ex_assign (e _ _ rfl)) rfl rfl ?_
      refine wl_nil ?_
      refine xw_next K14 ?_
      refine cw_ret ?_
      refine xw_ret (v := .bool (decide (g.inp = h.inp))) (fun T hT => res1 rfl T _ (hT 4 _ rfl)) ?_
      exact ⟨by rw [gate_dec c15 c16], O19.old⟩
    · skip
      refine wl_val (v := .bool false) (fun ρ e => ex_cmp (u := g.lit) (v := h.lit) (e _ _ rfl) (e _ _ rfl) (eql0 (by omega))) rfl rfl ?_
      refine wl_val (v := .bool false) (fun ρ e => ex_pick1 (e _ _ rfl) (e _ _ rfl)) rfl rfl ?_
      refine wl_val (v := .bool false) (fun ρ e => ex_move (e _ _ rfl)) rfl rfl ?_
      refine wl_skip rfl rfl ?_
      refine wl_skip rfl rfl ?_
      refine wl_skip rfl rfl ?_
      refine wl_skip rfl rfl ?_
      refine wl_skip rfl rfl ?_
      refine wl_val (v := .bool false) (fun ρ e => ex_pick0 (e _ _ rfl) (e _ _ rfl)) rfl rfl ?_
      refine wl_val (v := .bool false) (fun ρ e => ex_assign (e _ _ rfl)) rfl rfl ?_
      refine wl_nil ?_
      refine xw_next K14 ?_
      refine cw_ret ?_
      refine xw_ret (v := .bool false) (fun T hT => res1 rfl T _ (hT 4 _ rfl)) ?_
      exact ⟨by rw [decide_eq_false (fun e => c16 (by rw [e]))], O11.old⟩
  · skip
    refine wl_val (v := .bool false) (fun ρ e => ex_cmp (u := g.kind) (v := h.kind) (e _ _ rfl) (e _ _ rfl) (eql0 (by omega))) rfl rfl ?_
    refine wl_val (v := .bool false) (fun ρ e => ex_move (e _ _ rfl)) rfl rfl ?_
    refine wl_skip rfl rfl ?_
    refine wl_skip rfl rfl ?_
    refine wl_skip rfl rfl ?_
    refine wl_skip rfl rfl ?_
    refine wl_skip rfl rfl ?_
    refine wl_val (v := .bool false) (fun ρ e => ex_pick0 (e _ _ rfl) (e _ _ rfl)) rfl rfl ?_
    refine wl_val (v := .bool false) (fun ρ e => ex_move (e _ _ rfl)) rfl rfl ?_
    refine wl_skip rfl rfl ?_
    refine wl_skip rfl rfl ?_
    refine wl_skip rfl rfl ?_
    refine wl_skip rfl rfl ?_
    refine wl_skip rfl rfl ?_
    refine wl_val (v := .bool false) (fun ρ e => ex_pick0 (e _ _ rfl) (e _ _ rfl)) rfl rfl ?_
    refine wl_val (v := .bool false) (fun ρ e => ex_assign (e _ _ rfl)) rfl rfl ?_
    refine wl_nil ?_
    refine xw_next K14 ?_
    refine cw_ret ?_
    refine xw_ret (v := .bool false) (fun T hT => res1 rfl T _ (hT 4 _ rfl)) ?_
    exact ⟨by rw [decide_eq_false (fun e => c15 (by rw [e]))], O11.old⟩
theorem rcsame_ {W : World} {V1 V2 : Value} {N M : Int} {gs hs : List Gate} (hV1 : GatesV W W.heap.size V1 gs) (hV2 : GatesV W W.heap.size V2 hs) (hn : shortG gs) (hn2 : shortG hs) (hl : gs.length ≤ 1000000000) (hl2 : hs.length ≤ 1000000000) : Calls Tryd.prog 20 #[.agg #[.int .i64 N, V1], .agg #[.int .i64 M, V2]] W fun e w' => e = .returned (.bool (decide (N = M ∧ gs = hs))) ∧ Below W.heap.size W w' := by
  obtain ⟨A1, c1, rfl, _, hm1, _⟩ := id hV1
  obtain ⟨A2, c2, rfl, _, hm2, _⟩ := id hV2
  have O0 : Own Z0 W W [] := Own.start W
  refine sx_enter (args := [.agg #[.int .i64 N, .slice A1 gs.length c1], .agg #[.int .i64 M, .slice A2 hs.length c2]]) Tryd.func20 rfl rfl (by simp) ?_
  refine cw_seq (fun FK1 K1 => ?_)
  refine cw_region ?_
  obtain ⟨g2, w3, r4, O5, hg6, hs7⟩ := own_box O0 24 (.agg #[.int .i64 N, .slice A1 gs.length c1]) rfl
  refine wl_val (v := .pointer (some ⟨g2, 0, none⟩)) (fun ρ e => r4 ρ _ _ _ _ _ _ (e _ _ rfl)) rfl rfl ?_
  obtain ⟨g8, w9, r10, O11, hg12, hs13⟩ := own_box O5 24 (.agg #[.int .i64 M, .slice A2 hs.length c2]) rfl
  refine wl_val (v := .pointer (some ⟨g8, 0, none⟩)) (fun ρ e => r10 ρ _ _ _ _ _ _ (e _ _ rfl)) rfl rfl ?_
  refine wl_val (v := .bool false) (fun ρ e => ex_assign (e _ _ rfl)) rfl rfl ?_
  refine wl_nil ?_
  refine xw_next K1 ?_
  refine cw_seq (fun FK14 K14 => ?_)
  refine cw_seq (fun FK15 K15 => ?_)
  refine cw_region ?_
  refine wl_val (v := .pointer (some ⟨g2, 0, none⟩)) (fun ρ e => ex_field (q := 0) fi24_0 (e _ _ rfl) rfl) rfl rfl ?_
  refine wl_val (v := .int .i64 N) (fun ρ e => ex_load1 ty3 (e _ _ rfl) (O11.cell 1 0 rfl rfl)) rfl rfl ?_
  refine wl_val (v := .pointer (some ⟨g8, 0, none⟩)) (fun ρ e => ex_field (q := 0) fi24_0 (e _ _ rfl) rfl) rfl rfl ?_
  refine wl_val (v := .int .i64 M) (fun ρ e => ex_load1 ty3 (e _ _ rfl) (O11.cell 0 0 rfl rfl)) rfl rfl ?_
  by_cases c16 : N ≠ M
  · skip
    refine wl_val (v := .bool true) (fun ρ e => ex_cmp (u := N) (v := M) (e _ _ rfl) (e _ _ rfl) (neq1 (by omega))) rfl rfl ?_
    refine wl_val (v := .bool true) (fun ρ e => ex_move (e _ _ rfl)) rfl rfl ?_
    refine wl_skip rfl rfl ?_
    refine wl_skip rfl rfl ?_
    refine wl_skip rfl rfl ?_
    refine wl_skip rfl rfl ?_
    refine wl_skip rfl rfl ?_
    refine wl_skip rfl rfl ?_
    refine wl_skip rfl rfl ?_
    refine wl_val (v := .bool true) (fun ρ e => ex_pick1 (e _ _ rfl) (e _ _ rfl)) rfl rfl ?_
    refine wl_nil ?_
    refine xw_next K15 ?_
    refine cw_true rfl ?_
    refine cw_seq (fun FK17 K17 => ?_)
    refine cw_region ?_
    refine wl_val (v := .bool false) (fun ρ e => ex_assign (e _ _ rfl)) rfl rfl ?_
    refine wl_nil ?_
    refine xw_next K17 ?_
    refine cw_ret ?_
    refine xw_past (by intro h; cases h) ?_
    refine xw_ret (v := .bool false) (fun T hT => res1 rfl T _ (hT 4 _ rfl)) ?_
    exact ⟨by rw [decide_eq_false (fun e => c16 (by rw [e.1]))], O11.old⟩
  · skip
    have hc16 : N = M := by omega
    refine wl_val (v := .bool false) (fun ρ e => ex_cmp (u := N) (v := M) (e _ _ rfl) (e _ _ rfl) (neq0 (by omega))) rfl rfl ?_
    refine wl_val (v := .bool false) (fun ρ e => ex_move (e _ _ rfl)) rfl rfl ?_
    refine wl_val (v := .pointer (some ⟨g2, 1, none⟩)) (fun ρ e => ex_field (q := 1) fi24_1 (e _ _ rfl) rfl) rfl rfl ?_
    refine wl_val (v := .slice A1 gs.length c1) (fun ρ e => ex_load1 ty22 (e _ _ rfl) (O11.cell 1 1 rfl rfl)) rfl rfl ?_
    refine wl_val (v := .int .i64 ((gs.length : Nat) : Int)) (fun ρ e => ex_len el22 (e _ _ rfl)) rfl rfl ?_
    refine wl_val (v := .pointer (some ⟨g8, 1, none⟩)) (fun ρ e => ex_field (q := 1) fi24_1 (e _ _ rfl) rfl) rfl rfl ?_
    refine wl_val (v := .slice A2 hs.length c2) (fun ρ e => ex_load1 ty22 (e _ _ rfl) (O11.cell 0 1 rfl rfl)) rfl rfl ?_
    refine wl_val (v := .int .i64 ((hs.length : Nat) : Int)) (fun ρ e => ex_len el22 (e _ _ rfl)) rfl rfl ?_
    by_cases c18 : ((gs.length : Nat) : Int) ≠ ((hs.length : Nat) : Int)
    · skip
      refine wl_val (v := .bool true) (fun ρ e => ex_cmp (u := ((gs.length : Nat) : Int)) (v := ((hs.length : Nat) : Int)) (e _ _ rfl) (e _ _ rfl) (neq1 (by omega))) rfl rfl ?_
      refine wl_val (v := .bool true) (fun ρ e => ex_pick0 (e _ _ rfl) (e _ _ rfl)) rfl rfl ?_
      refine wl_nil ?_
      refine xw_next K15 ?_
      refine cw_true rfl ?_
      refine cw_seq (fun FK19 K19 => ?_)
      refine cw_region ?_
      refine wl_val (v := .bool false) (fun ρ e => ex_assign (e _ _ rfl)) rfl rfl ?_
      refine wl_nil ?_
      refine xw_next K19 ?_
      refine cw_ret ?_
      refine xw_past (by intro h; cases h) ?_
      refine xw_ret (v := .bool false) (fun T hT => res1 rfl T _ (hT 4 _ rfl)) ?_
      exact ⟨by rw [decide_eq_false (fun e => c18 (by rw [e.2]))], O11.old⟩
    · skip
      have hc18 : ((gs.length : Nat) : Int) = ((hs.length : Nat) : Int) := by omega
      refine wl_val (v := .bool false) (fun ρ e => ex_cmp (u := ((gs.length : Nat) : Int)) (v := ((hs.length : Nat) : Int)) (e _ _ rfl) (e _ _ rfl) (neq0 (by omega))) rfl rfl ?_
      refine wl_val (v := .bool false) (fun ρ e => ex_pick0 (e _ _ rfl) (e _ _ rfl)) rfl rfl ?_
      refine wl_nil ?_
      refine xw_next K15 ?_
      refine cw_false rfl ?_
      refine cw_skip ?_
      refine xw_next K14 ?_
      refine cw_seq (fun FK20 K20 => ?_)
      refine cw_seq (fun FK21 K21 => ?_)
      refine cw_region ?_
      refine wl_val (v := .int .i64 0) (fun ρ e => ex_assign (e _ _ rfl)) rfl rfl ?_
      refine wl_nil ?_
      refine xw_next K21 ?_
      refine cw_block ?_
      refine cw_loop (ι := Nat) (fun q => [(2, .pointer (some ⟨g2, 0, none⟩)), (3, .pointer (some ⟨g8, 0, none⟩)), (5, .int .i64 (q : Int))]) (fun q X => (q ≤ gs.length) ∧ (gs.take q = hs.take q) ∧ Own Z0 W X [.blk g8 24 #[.int .i64 M, .slice A2 hs.length c2], .blk g2 24 #[.int .i64 N, .slice A1 gs.length c1]]) (fun q => gs.length - q) 0 ⟨Nat.zero_le _, rfl, O11⟩ ⟨rfl, rfl, rfl, trivial⟩ (fun q w22 hJ F23 K24 => ?_)
      obtain ⟨k, rfl⟩ : ∃ x, x = q := ⟨_, rfl⟩
      obtain ⟨hk0, hp, O25⟩ := hJ
      try dsimp only at hk0 hp O25 ⊢
      by_cases hk : k < gs.length
      · have hk2 : k < hs.length := by omega
        obtain ⟨b1, o1, I1, e1, hA1, hB1, p10, p11, p12, hI1, _, _⟩ := hV1.at_ (Below.refl _ _) (show k < gs.length by omega)
        obtain ⟨b2, o2, I2, e2, hA2, hB2, p20, p21, p22, hI2, _, _⟩ := hV2.at_ (Below.refl _ _) (show k < hs.length by omega)
        by_cases heq : gs[k] = hs[k]
        · have hdec : decide (gs[k] = hs[k]) = true := by simp [heq]
          refine cw_seq (fun FK26 K26 => ?_)
          refine cw_seq (fun FK27 K27 => ?_)
          refine cw_region ?_
          refine wl_val (v := .int .i64 (k : Int)) (fun ρ e => ex_move (e _ _ rfl)) rfl rfl ?_
          refine wl_val (v := .pointer (some ⟨g2, 1, none⟩)) (fun ρ e => ex_field (q := 1) fi24_1 (e _ _ rfl) rfl) rfl rfl ?_
          refine wl_val (v := .slice A1 gs.length c1) (fun ρ e => ex_load1 ty22 (e _ _ rfl) (O25.cell 1 1 rfl rfl)) rfl rfl ?_
          refine wl_val (v := .int .i64 ((gs.length : Nat) : Int)) (fun ρ e => ex_len el22 (e _ _ rfl)) rfl rfl ?_
          refine wl_val (v := .bool true) (fun ρ e => ex_cmp (u := (k : Int)) (v := ((gs.length : Nat) : Int)) (e _ _ rfl) (e _ _ rfl) (lss1 (by omega))) rfl rfl ?_
          refine wl_nil ?_
          refine xw_next K27 ?_
          refine cw_true rfl ?_
          refine cw_skip ?_
          refine xw_next K26 ?_
          refine cw_seq (fun FK28 K28 => ?_)
          refine cw_block ?_
          refine cw_seq (fun FK29 K29 => ?_)
          refine cw_drawn (fun X => Own Z0 W X [.blk g8 24 #[.int .i64 M, .slice A2 hs.length c2], .blk g2 24 #[.int .i64 N, .slice A1 gs.length c1]]) 12 [(0, 1), (1, 0), (2, 1), (3, 1), (4, 0), (5, 1), (6, 0), (7, 1), (8, 1), (9, 0), (10, 2), (11, 1)] (by kernel_rfl) (by kernel_rfl) (PQ.then_ (PQ.block (PQ.then_ (PQ.then_ (PQ.block (PQ.then_ PQ.body)))))) (O25).drew ?_
          have O30 : Own Z0 W w22.drew [.blk g8 24 #[.int .i64 M, .slice A2 hs.length c2], .blk g2 24 #[.int .i64 N, .slice A1 gs.length c1]] := O25.drew
          refine wt1 (v := .pointer (some ⟨g2, 1, none⟩)) rfl (fun ρ e W => ex_field (q := 1) fi24_1 (e _ _ rfl) rfl) rfl rfl ?_
          refine wt0 (v := .slice A1 gs.length c1) rfl (fun ρ e W hW => ex_load1 ty22 (e _ _ rfl) (hW.cell 1 1 rfl rfl)) rfl rfl ?_
          refine wt1 (v := .int .i64 (k : Int)) rfl (fun ρ e W => ex_move (e _ _ rfl)) rfl rfl ?_
          refine wt1 (v := .pointer (some ⟨b1, o1 + k * 3, none⟩)) rfl (fun ρ e W => ex_idx (q := o1 + k * 3) (g := b1) (o := o1) (i := k) el22 ((e _ _ rfl).trans (congrArg (fun z => Value.slice z gs.length c1) hA1)) (e _ _ rfl) (by omega) (by omega)) rfl rfl ?_
          refine wt0 (v := .agg #[.int .i64 (gs[k].kind), .int .i64 (gs[k].lit), .slice I1 (gs[k].inp.length) e1]) rfl (fun ρ e W hW => ex_loadN (vs := [.int .i64 (gs[k].kind), .int .i64 (gs[k].lit), .slice I1 (gs[k].inp.length) e1]) ty38 (e _ _ rfl) rfl (cells3 ((hW.old.cell (p := ⟨b1, o1 + k * 3, none⟩) hB1).trans p10) ((hW.old.cell (p := ⟨b1, o1 + k * 3 + 1, none⟩) hB1).trans p11) ((hW.old.cell (p := ⟨b1, o1 + k * 3 + 2, none⟩) hB1).trans p12))) rfl rfl ?_
          refine wt1 (v := .pointer (some ⟨g8, 1, none⟩)) rfl (fun ρ e W => ex_field (q := 1) fi24_1 (e _ _ rfl) rfl) rfl rfl ?_
          refine wt0 (v := .slice A2 hs.length c2) rfl (fun ρ e W hW => ex_load1 ty22 (e _ _ rfl) (hW.cell 0 1 rfl rfl)) rfl rfl ?_
          refine wt1 (v := .int .i64 (k : Int)) rfl (fun ρ e W => ex_move (e _ _ rfl)) rfl rfl ?_
          refine wt1 (v := .pointer (some ⟨b2, o2 + k * 3, none⟩)) rfl (fun ρ e W => ex_idx (q := o2 + k * 3) (g := b2) (o := o2) (i := k) el22 ((e _ _ rfl).trans (congrArg (fun z => Value.slice z hs.length c2) hA2)) (e _ _ rfl) (by omega) (by omega)) rfl rfl ?_
          refine wt0 (v := .agg #[.int .i64 (hs[k].kind), .int .i64 (hs[k].lit), .slice I2 (hs[k].inp.length) e2]) rfl (fun ρ e W hW => ex_loadN (vs := [.int .i64 (hs[k].kind), .int .i64 (hs[k].lit), .slice I2 (hs[k].inp.length) e2]) ty38 (e _ _ rfl) rfl (cells3 ((hW.old.cell (p := ⟨b2, o2 + k * 3, none⟩) hB2).trans p20) ((hW.old.cell (p := ⟨b2, o2 + k * 3 + 1, none⟩) hB2).trans p21) ((hW.old.cell (p := ⟨b2, o2 + k * 3 + 2, none⟩) hB2).trans p22))) rfl rfl ?_
          refine wt2_call (args := [.agg #[.int .i64 (gs[k].kind), .int .i64 (gs[k].lit), .slice I1 (gs[k].inp.length) e1], .agg #[.int .i64 (hs[k].kind), .int .i64 (hs[k].lit), .slice I2 (hs[k].inp.length) e2]]) rfl in_43 rfl rfl rfl ?_
          refine (requal_ (g := gs[k]) (h := hs[k]) ((hI1.below O30.old).more O30.old.size) ((hI2.below O30.old).more O30.old.size) (hn _ (List.getElem_mem hk)) (hn2 _ (List.getElem_mem hk2))).mono ?_
          rintro _ w31 ⟨rfl, hb32⟩
          have O33 : Own Z0 W w31 [.blk g8 24 #[.int .i64 M, .slice A2 hs.length c2], .blk g2 24 #[.int .i64 N, .slice A1 gs.length c1]] := O30.below hb32
          rw [hdec]
          refine ⟨_, rfl, O33, ?_⟩
          refine wt1 (v := .bool false) rfl (fun ρ e W => ex_lnot (b := true) (e _ _ rfl)) rfl rfl ?_
          refine wt_nil ?_
          refine xw_next K29 ?_
          refine cw_false rfl ?_
          refine cw_skip ?_
          refine xw_block ?_
          refine xw_next K28 ?_
          refine cw_region ?_
          refine wl_val (v := .int .i64 (k : Int)) (fun ρ e => ex_move (e _ _ rfl)) rfl rfl ?_
          refine wl_val (v := .int .i64 ((k + 1 : Nat) : Int)) (fun ρ e => ex_arith (k := .i64) (u := (k : Int)) (v := 1) (e _ _ rfl) (e _ _ rfl) (congrArg some ((congrArg _ (by omega)).trans (wrap_in (u := ((k + 1 : Nat) : Int)) (by omega) (by omega))))) rfl rfl ?_
          refine wl_val (v := .int .i64 ((k + 1 : Nat) : Int)) (fun ρ e => ex_assign (e _ _ rfl)) rfl rfl ?_
          refine wl_nil ?_
          refine xw_round K24 (k + 1) (by show gs.length - (k + 1) < gs.length - k; omega) ⟨(by show k + 1 ≤ _; omega), (take_snoc hp (List.getElem?_eq_getElem hk) (heq ▸ List.getElem?_eq_getElem hk2)), O33⟩ ⟨rfl, rfl, rfl, trivial⟩
        · have hdec : decide (gs[k] = hs[k]) = false := by simp [heq]
          refine cw_seq (fun FK34 K34 => ?_)
          refine cw_seq (fun FK35 K35 => ?_)
          refine cw_region ?_
          refine wl_val (v := .int .i64 (k : Int)) (fun ρ e => ex_move (e _ _ rfl)) rfl rfl ?_
          refine wl_val (v := .pointer (some ⟨g2, 1, none⟩)) (fun ρ e => ex_field (q := 1) fi24_1 (e _ _ rfl) rfl) rfl rfl ?_
          refine wl_val (v := .slice A1 gs.length c1) (fun ρ e => ex_load1 ty22 (e _ _ rfl) (O25.cell 1 1 rfl rfl)) rfl rfl ?_
          refine wl_val (v := .int .i64 ((gs.length : Nat) : Int)) (fun ρ e => ex_len el22 (e _ _ rfl)) rfl rfl ?_
          refine wl_val (v := .bool true) (fun ρ e => ex_cmp (u := (k : Int)) (v := ((gs.length : Nat) : Int)) (e _ _ rfl) (e _ _ rfl) (lss1 (by omega))) rfl rfl ?_
          refine wl_nil ?_
          refine xw_next K35 ?_
          refine cw_true rfl ?_
          refine cw_skip ?_
          refine xw_next K34 ?_
          refine cw_seq (fun FK36 K36 => ?_)
          refine cw_block ?_
          refine cw_seq (fun FK37 K37 => ?_)
          refine cw_drawn (fun X => Own Z0 W X [.blk g8 24 #[.int .i64 M, .slice A2 hs.length c2], .blk g2 24 #[.int .i64 N, .slice A1 gs.length c1]]) 12 [(0, 1), (1, 0), (2, 1), (3, 1), (4, 0), (5, 1), (6, 0), (7, 1), (8, 1), (9, 0), (10, 2), (11, 1)] (by kernel_rfl) (by kernel_rfl) (PQ.then_ (PQ.block (PQ.then_ (PQ.then_ (PQ.block (PQ.then_ PQ.body)))))) (O25).drew ?_
          have O38 : Own Z0 W w22.drew [.blk g8 24 #[.int .i64 M, .slice A2 hs.length c2], .blk g2 24 #[.int .i64 N, .slice A1 gs.length c1]] := O25.drew
          refine wt1 (v := .pointer (some ⟨g2, 1, none⟩)) rfl (fun ρ e W => ex_field (q := 1) fi24_1 (e _ _ rfl) rfl) rfl rfl ?_
          refine wt0 (v := .slice A1 gs.length c1) rfl (fun ρ e W hW => ex_load1 ty22 (e _ _ rfl) (hW.cell 1 1 rfl rfl)) rfl rfl ?_
          refine wt1 (v := .int .i64 (k : Int)) rfl (fun ρ e W => ex_move (e _ _ rfl)) rfl rfl ?_
          refine wt1 (v := .pointer (some ⟨b1, o1 + k * 3, none⟩)) rfl (fun ρ e W => ex_idx (q := o1 + k * 3) (g := b1) (o := o1) (i := k) el22 ((e _ _ rfl).trans (congrArg (fun z => Value.slice z gs.length c1) hA1)) (e _ _ rfl) (by omega) (by omega)) rfl rfl ?_
          refine wt0 (v := .agg #[.int .i64 (gs[k].kind), .int .i64 (gs[k].lit), .slice I1 (gs[k].inp.length) e1]) rfl (fun ρ e W hW => ex_loadN (vs := [.int .i64 (gs[k].kind), .int .i64 (gs[k].lit), .slice I1 (gs[k].inp.length) e1]) ty38 (e _ _ rfl) rfl (cells3 ((hW.old.cell (p := ⟨b1, o1 + k * 3, none⟩) hB1).trans p10) ((hW.old.cell (p := ⟨b1, o1 + k * 3 + 1, none⟩) hB1).trans p11) ((hW.old.cell (p := ⟨b1, o1 + k * 3 + 2, none⟩) hB1).trans p12))) rfl rfl ?_
          refine wt1 (v := .pointer (some ⟨g8, 1, none⟩)) rfl (fun ρ e W => ex_field (q := 1) fi24_1 (e _ _ rfl) rfl) rfl rfl ?_
          refine wt0 (v := .slice A2 hs.length c2) rfl (fun ρ e W hW => ex_load1 ty22 (e _ _ rfl) (hW.cell 0 1 rfl rfl)) rfl rfl ?_
          refine wt1 (v := .int .i64 (k : Int)) rfl (fun ρ e W => ex_move (e _ _ rfl)) rfl rfl ?_
          refine wt1 (v := .pointer (some ⟨b2, o2 + k * 3, none⟩)) rfl (fun ρ e W => ex_idx (q := o2 + k * 3) (g := b2) (o := o2) (i := k) el22 ((e _ _ rfl).trans (congrArg (fun z => Value.slice z hs.length c2) hA2)) (e _ _ rfl) (by omega) (by omega)) rfl rfl ?_
          refine wt0 (v := .agg #[.int .i64 (hs[k].kind), .int .i64 (hs[k].lit), .slice I2 (hs[k].inp.length) e2]) rfl (fun ρ e W hW => ex_loadN (vs := [.int .i64 (hs[k].kind), .int .i64 (hs[k].lit), .slice I2 (hs[k].inp.length) e2]) ty38 (e _ _ rfl) rfl (cells3 ((hW.old.cell (p := ⟨b2, o2 + k * 3, none⟩) hB2).trans p20) ((hW.old.cell (p := ⟨b2, o2 + k * 3 + 1, none⟩) hB2).trans p21) ((hW.old.cell (p := ⟨b2, o2 + k * 3 + 2, none⟩) hB2).trans p22))) rfl rfl ?_
          refine wt2_call (args := [.agg #[.int .i64 (gs[k].kind), .int .i64 (gs[k].lit), .slice I1 (gs[k].inp.length) e1], .agg #[.int .i64 (hs[k].kind), .int .i64 (hs[k].lit), .slice I2 (hs[k].inp.length) e2]]) rfl in_43 rfl rfl rfl ?_
          refine (requal_ (g := gs[k]) (h := hs[k]) ((hI1.below O38.old).more O38.old.size) ((hI2.below O38.old).more O38.old.size) (hn _ (List.getElem_mem hk)) (hn2 _ (List.getElem_mem hk2))).mono ?_
          rintro _ w39 ⟨rfl, hb40⟩
          have O41 : Own Z0 W w39 [.blk g8 24 #[.int .i64 M, .slice A2 hs.length c2], .blk g2 24 #[.int .i64 N, .slice A1 gs.length c1]] := O38.below hb40
          rw [hdec]
          refine ⟨_, rfl, O41, ?_⟩
          refine wt1 (v := .bool true) rfl (fun ρ e W => ex_lnot (b := false) (e _ _ rfl)) rfl rfl ?_
          refine wt_nil ?_
          refine xw_next K37 ?_
          refine cw_true rfl ?_
          refine cw_seq (fun FK42 K42 => ?_)
          refine cw_region ?_
          refine wl_val (v := .bool false) (fun ρ e => ex_assign (e _ _ rfl)) rfl rfl ?_
          refine wl_nil ?_
          refine xw_next K42 ?_
          refine cw_ret ?_
          refine xw_blockret ?_
          refine xw_past (by intro h; cases h) ?_
          refine xw_past (by intro h; cases h) ?_
          refine xw_blockret ?_
          refine xw_past (by intro h; cases h) ?_
          refine xw_ret (v := .bool false) (fun T hT => res1 rfl T _ (hT 4 _ rfl)) ?_
          exact ⟨by rw [decide_eq_false (fun e => heq (by have := e.2; subst this; rfl))], O41.old⟩
      · have hke : k = gs.length := by omega
        refine cw_seq (fun FK43 K43 => ?_)
        refine cw_seq (fun FK44 K44 => ?_)
        refine cw_region ?_
        refine wl_val (v := .int .i64 (k : Int)) (fun ρ e => ex_move (e _ _ rfl)) rfl rfl ?_
        refine wl_val (v := .pointer (some ⟨g2, 1, none⟩)) (fun ρ e => ex_field (q := 1) fi24_1 (e _ _ rfl) rfl) rfl rfl ?_
        refine wl_val (v := .slice A1 gs.length c1) (fun ρ e => ex_load1 ty22 (e _ _ rfl) (O25.cell 1 1 rfl rfl)) rfl rfl ?_
        refine wl_val (v := .int .i64 ((gs.length : Nat) : Int)) (fun ρ e => ex_len el22 (e _ _ rfl)) rfl rfl ?_
        refine wl_val (v := .bool false) (fun ρ e => ex_cmp (u := (k : Int)) (v := ((gs.length : Nat) : Int)) (e _ _ rfl) (e _ _ rfl) (lss0 (by omega))) rfl rfl ?_
        refine wl_nil ?_
        refine xw_next K44 ?_
        refine cw_false rfl ?_
        refine cw_exit ?_
        refine xw_past (by intro h; cases h) ?_
        refine xw_past (by intro h; cases h) ?_
        refine xw_here ?_
        refine xw_next K20 ?_
        refine cw_seq (fun FK45 K45 => ?_)
        refine cw_region ?_
        refine wl_val (v := .bool true) (fun ρ e => ex_assign (e _ _ rfl)) rfl rfl ?_
        refine wl_nil ?_
        refine xw_next K45 ?_
        refine cw_ret ?_
        refine xw_ret (v := .bool true) (fun T hT => res1 rfl T _ (hT 4 _ rfl)) ?_
        exact ⟨by rw [decide_eq_true (⟨by omega, by rw [hke, List.take_length] at hp; rw [hp, show gs.length = hs.length by omega, List.take_length]⟩)], O25.old⟩
theorem copy_ {W : World} {V : Value} {N : Int} {gs : List Gate} (hV : GatesV W W.heap.size V gs) (hsh : ∀ g ∈ gs, g.inp.length ≤ 1000000) (hl : gs.length ≤ 1000000) : Calls Tryd.prog 16 #[.agg #[.int .i64 N, V]] W fun e w' => ∃ A c D vs, e = .returned (.agg #[.int .i64 N, .slice A gs.length c]) ∧ Own Z0 W w' [.row (.slice A gs.length c) 38 3 gs.length (gcells gs vs), ownE D gs vs] ∧ ∀ k, D k → W.heap.size ≤ k := by
  obtain ⟨A, c, rfl, _, _, _⟩ := id hV
  have O0 : Own Z0 W W [] := Own.start W
  refine sx_enter (args := [.agg #[.int .i64 N, .slice A gs.length c]]) Tryd.func16 rfl rfl (by simp) ?_
  refine cw_seq (fun FK1 K1 => ?_)
  refine cw_region ?_
  obtain ⟨g2, w3, r4, O5, hg6, hs7⟩ := own_box O0 24 (.agg #[.int .i64 N, .slice A gs.length c]) rfl
  refine wl_val (v := .pointer (some ⟨g2, 0, none⟩)) (fun ρ e => r4 ρ _ _ _ _ _ _ (e _ _ rfl)) rfl rfl ?_
  obtain ⟨g8, w9, r10, O11, hg12, hs13⟩ := own_alloc O5 24 ze24 rfl
  refine wl_val (v := .pointer (some ⟨g8, 0, none⟩)) (fun ρ e => r10 ρ _ _ _ _ _) rfl rfl ?_
  refine wl_nil ?_
  refine xw_next K1 ?_
  refine cw_seq (fun FK14 K14 => ?_)
  refine cw_region ?_
  refine wl_val (v := .pointer (some ⟨g2, 0, none⟩)) (fun ρ e => ex_field (q := 0) fi24_0 (e _ _ rfl) rfl) rfl rfl ?_
  refine wl_val (v := .int .i64 N) (fun ρ e => ex_load1 ty3 (e _ _ rfl) (O11.cell 1 0 rfl rfl)) rfl rfl ?_
  refine wl_val (v := .agg #[.int .i64 N, .slice none 0 0]) (fun ρ e => ex_build (cells := #[.int .i64 N, .slice none 0 0]) st24 (e.parts rfl) rfl) rfl rfl ?_
  obtain ⟨g15, w16, r17, O18, hg19, hs20⟩ := own_alloc O11 24 ze24 rfl
  refine wl_val (v := .pointer (some ⟨g15, 0, none⟩)) (fun ρ e => r17 ρ _ _ _ _ _) rfl rfl ?_
  obtain ⟨w21, r22, O23, hs24⟩ := own_put (o := 0) (n := 2) O18 ty24 (.agg #[.int .i64 N, .slice none 0 0]) [.int .i64 N, .slice none 0 0] (cs' := #[.int .i64 N, .slice none 0 0]) rfl rfl rfl (Nat.le_of_ble_eq_true rfl) rfl
  refine wl_none (fun ρ e => r22 ρ _ _ _ _ _ _ (e _ _ rfl) (e _ _ rfl)) rfl ?_
  refine wl_nil ?_
  refine xw_next K14 ?_
  refine cw_seq (fun FK25 K25 => ?_)
  refine cw_seq (fun FK26 K26 => ?_)
  refine cw_region ?_
  refine wl_val (v := .pointer (some ⟨g2, 1, none⟩)) (fun ρ e => ex_field (q := 1) fi24_1 (e _ _ rfl) rfl) rfl rfl ?_
  refine wl_val (v := .slice A gs.length c) (fun ρ e => ex_load1 ty22 (e _ _ rfl) (O23.cell 2 1 rfl rfl)) rfl rfl ?_
  refine wl_val (v := .int .i64 ((gs.length : Nat) : Int)) (fun ρ e => ex_len el22 (e _ _ rfl)) rfl rfl ?_
  refine wl_val (v := .int .i64 0) (fun ρ e => ex_move (e _ _ rfl)) rfl rfl ?_
  refine wl_nil ?_
  refine xw_next K26 ?_
  refine cw_block ?_
  skip
  have O27 : Own Z0 W w21 [.row (.slice none 0 0) 38 3 0 (gcells [] []), .blk g15 24 #[.int .i64 N, .slice none 0 0], .blk g8 24 #[.int .i64 0, .slice none 0 0], .blk g2 24 #[.int .i64 N, .slice A gs.length c]] := O23.nilrow 38 3
  have O28 : Own Z0 W w21 [.ro (fun _ => False) (OwnIns (fun _ => False) [] []), .row (.slice none 0 0) 38 3 0 (gcells [] []), .blk g15 24 #[.int .i64 N, .slice none 0 0], .blk g8 24 #[.int .i64 0, .slice none 0 0], .blk g2 24 #[.int .i64 N, .slice A gs.length c]] := O27.nilown
  have O29 : Own Z0 W w21 [.row (.slice none 0 0) 38 3 0 (gcells [] []), .ro (fun _ => False) (OwnIns (fun _ => False) [] []), .blk g15 24 #[.int .i64 N, .slice none 0 0], .blk g8 24 #[.int .i64 0, .slice none 0 0], .blk g2 24 #[.int .i64 N, .slice A gs.length c]] := (O28.re [1, 0, 2, 3, 4] rfl : Own Z0 W w21 [.row (.slice none 0 0) 38 3 0 (gcells [] []), .ro (fun _ => False) (OwnIns (fun _ => False) [] []), .blk g15 24 #[.int .i64 N, .slice none 0 0], .blk g8 24 #[.int .i64 0, .slice none 0 0], .blk g2 24 #[.int .i64 N, .slice A gs.length c]])
  refine cw_loop (ι := Nat × Option Addr × Nat × List Value × (Nat → Prop)) (fun q => [(2, .pointer (some ⟨g8, 0, none⟩)), (3, .pointer (some ⟨g15, 0, none⟩)), (10, .slice A gs.length c), (11, .int .i64 ((gs.length : Nat) : Int)), (12, .int .i64 (q.1 : Int))]) (fun q X => (q.1 ≤ gs.length) ∧ (∀ k, q.2.2.2.2 k → W.heap.size ≤ k) ∧ Own Z0 W X [.row (.slice q.2.1 q.1 q.2.2.1) 38 3 q.1 (gcells (gs.take q.1) q.2.2.2.1), .ro q.2.2.2.2 (OwnIns q.2.2.2.2 (gs.take q.1) q.2.2.2.1), .blk g15 24 #[.int .i64 N, .slice q.2.1 q.1 q.2.2.1], .blk g8 24 #[.int .i64 0, .slice none 0 0], .blk g2 24 #[.int .i64 N, .slice A gs.length c]]) (fun q => gs.length - q.1) (0, none, 0, [], (fun _ => False)) ⟨Nat.zero_le _, (fun k hk => hk.elim), O29⟩ ⟨rfl, rfl, rfl, rfl, rfl, trivial⟩ (fun q w30 hJ F31 K32 => ?_)
  obtain ⟨i, Ao, co, vo, Do⟩ := q
  obtain ⟨hi0, hDo, O33⟩ := hJ
  dsimp only at hi0 hDo O33 ⊢
  by_cases hk : i < gs.length
  · obtain ⟨bG, oG, AI, cI, hbA, hbB, k0, k1, k2, hIV, _, _⟩ := hV.at_ (Below.refl _ _) hk
    have hig := hsh _ (List.getElem_mem hk)
    have htk : gs.take (i + 1) = gs.take i ++ [gs[i]] := (List.take_append_getElem hk).symm
    refine cw_seq (fun FK34 K34 => ?_)
    refine cw_region ?_
    refine wl_val (v := .bool true) (fun ρ e => ex_cmp (u := (i : Int)) (v := ((gs.length : Nat) : Int)) (e _ _ rfl) (e _ _ rfl) (lss1 (by omega))) rfl rfl ?_
    refine wl_nil ?_
    refine xw_next K34 ?_
    refine cw_seq (fun FK35 K35 => ?_)
    refine cw_true rfl ?_
    refine cw_skip ?_
    refine xw_next K35 ?_
    refine cw_seq (fun FK36 K36 => ?_)
    refine cw_block ?_
    refine cw_seq (fun FK37 K37 => ?_)
    refine cw_region ?_
    refine wl_val (v := .pointer (some ⟨bG, oG + i * 3, none⟩)) (fun ρ e => ex_idx (q := oG + i * 3) (g := bG) (o := oG) (i := i) el22 ((e _ _ rfl).trans (congrArg (fun z => Value.slice z gs.length c) hbA)) (e _ _ rfl) hk (by omega)) rfl rfl ?_
    refine wl_val (v := .agg #[.int .i64 (gs[i].kind), .int .i64 (gs[i].lit), .slice AI (gs[i].inp.length) cI]) (fun ρ e => ex_loadN (vs := [.int .i64 (gs[i].kind), .int .i64 (gs[i].lit), .slice AI (gs[i].inp.length) cI]) ty38 (e _ _ rfl) rfl (cells3 ((O33.old.cell (p := ⟨bG, oG + i * 3, none⟩) hbB).trans k0) ((O33.old.cell (p := ⟨bG, oG + i * 3 + 1, none⟩) hbB).trans k1) ((O33.old.cell (p := ⟨bG, oG + i * 3 + 2, none⟩) hbB).trans k2))) rfl rfl ?_
    obtain ⟨g38, w39, r40, O41, hg42, hs43⟩ := own_alloc O33 38 ze38 rfl
    refine wl_val (v := .pointer (some ⟨g38, 0, none⟩)) (fun ρ e => r40 ρ _ _ _ _ _) rfl rfl ?_
    obtain ⟨w44, r45, O46, hs47⟩ := own_put (o := 0) (n := 3) O41 ty38 (.agg #[.int .i64 (gs[i].kind), .int .i64 (gs[i].lit), .slice AI (gs[i].inp.length) cI]) [.int .i64 (gs[i].kind), .int .i64 (gs[i].lit), .slice AI (gs[i].inp.length) cI] (cs' := #[.int .i64 (gs[i].kind), .int .i64 (gs[i].lit), .slice AI (gs[i].inp.length) cI]) rfl rfl rfl (Nat.le_of_ble_eq_true rfl) rfl
    refine wl_none (fun ρ e => r45 ρ _ _ _ _ _ _ (e _ _ rfl) (e _ _ rfl)) rfl ?_
    refine wl_nil ?_
    refine xw_next K37 ?_
    refine cw_drawn (fun X => Own Z0 W X [.blk g38 38 #[.int .i64 (gs[i].kind), .int .i64 (gs[i].lit), .slice AI (gs[i].inp.length) cI], .ro Do (OwnIns Do (gs.take i) vo), .blk g15 24 #[.int .i64 N, .slice Ao i co], .blk g8 24 #[.int .i64 0, .slice none 0 0], .blk g2 24 #[.int .i64 N, .slice A gs.length c]]) 14 [(0, 1), (1, 0), (2, 1), (3, 0), (4, 1), (5, 0), (7, 1), (8, 0), (6, 2), (9, 2), (10, 1), (11, 2), (12, 2), (13, 1), (14, 3)] (by kernel_rfl) (by kernel_rfl) (PQ.block (PQ.then_ (PQ.then_ (PQ.block (PQ.then_ PQ.body))))) ((O46.re [0, 2, 3, 4, 5] rfl : Own Z0 W w44 [.blk g38 38 #[.int .i64 (gs[i].kind), .int .i64 (gs[i].lit), .slice AI (gs[i].inp.length) cI], .ro Do (OwnIns Do (gs.take i) vo), .blk g15 24 #[.int .i64 N, .slice Ao i co], .blk g8 24 #[.int .i64 0, .slice none 0 0], .blk g2 24 #[.int .i64 N, .slice A gs.length c]])).drew ?_
    have O48 : Own Z0 W w44.drew [.blk g38 38 #[.int .i64 (gs[i].kind), .int .i64 (gs[i].lit), .slice AI (gs[i].inp.length) cI], .row (.slice Ao i co) 38 3 i (gcells (gs.take i) vo), .ro Do (OwnIns Do (gs.take i) vo), .blk g15 24 #[.int .i64 N, .slice Ao i co], .blk g8 24 #[.int .i64 0, .slice none 0 0], .blk g2 24 #[.int .i64 N, .slice A gs.length c]] := O46.drew
    refine wt1 (v := .pointer (some ⟨g15, 1, none⟩)) rfl (fun ρ e W => ex_field (q := 1) fi24_1 (e _ _ rfl) rfl) rfl rfl ?_
    refine wt0 (v := .slice Ao i co) rfl (fun ρ e W hW => ex_load1 ty22 (e _ _ rfl) (hW.cell 2 1 rfl rfl)) rfl rfl ?_
    refine wt1 (v := .pointer (some ⟨g38, 0, none⟩)) rfl (fun ρ e W => ex_field (q := 0) fi38_0 (e _ _ rfl) rfl) rfl rfl ?_
    refine wt0 (v := .int .i64 (gs[i].kind)) rfl (fun ρ e W hW => ex_load1 ty3 (e _ _ rfl) (hW.cell 0 0 rfl rfl)) rfl rfl ?_
    refine wt1 (v := .pointer (some ⟨g38, 1, none⟩)) rfl (fun ρ e W => ex_field (q := 1) fi38_1 (e _ _ rfl) rfl) rfl rfl ?_
    refine wt0 (v := .int .i64 (gs[i].lit)) rfl (fun ρ e W hW => ex_load1 ty3 (e _ _ rfl) (hW.cell 0 1 rfl rfl)) rfl rfl ?_
    refine wt1 (v := .pointer (some ⟨g38, 2, none⟩)) rfl (fun ρ e W => ex_field (q := 2) fi38_2 (e _ _ rfl) rfl) rfl rfl ?_
    refine wt0 (v := .slice AI (gs[i].inp.length) cI) rfl (fun ρ e W hW => ex_load1 ty36 (e _ _ rfl) (hW.cell 0 2 rfl rfl)) rfl rfl ?_
    obtain ⟨g49, w50, r51, O52, hg53, hs54⟩ := own_slice O48 el36 ze3 0 [] (cs := #[]) (by decide) (by kernel_rfl)
    refine wt2 (v := .slice (some ⟨g49, 0, none⟩) 0 0) rfl (fun ρ e => r51 ρ _ _ _ _ _ _ (e.parts rfl)) rfl rfl (O52.re [1, 3, 4, 5, 6] rfl : Own Z0 W w50 [.blk g38 38 #[.int .i64 (gs[i].kind), .int .i64 (gs[i].lit), .slice AI (gs[i].inp.length) cI], .ro Do (OwnIns Do (gs.take i) vo), .blk g15 24 #[.int .i64 N, .slice Ao i co], .blk g8 24 #[.int .i64 0, .slice none 0 0], .blk g2 24 #[.int .i64 N, .slice A gs.length c]]) ?_
    have O61 := Own.blkrow (xs := []) (n := 0) O52 rfl rfl (by decide)
    obtain ⟨A55, c56, w57, r58, O59, hz60⟩ := own_appS (m := gs[i].inp.length) (c := cI) (A := AI) (news := intCs gs[i].inp) O61 ap36 (by simp [intCs]) (ints_src (hIV.below O61.old) (Below.refl _ _)) (intCs_one _) (by omega) (by omega) (ys := intCs gs[i].inp) rfl
    rw [Nat.zero_add] at r58 O59
    have O59n := O59.rownew 0 rfl
    refine wt2 (v := .slice A55 (gs[i].inp.length) c56) rfl (fun ρ e => r58 ρ _ _ _ _ _ _ _ (e _ _ rfl) (e _ _ rfl)) rfl rfl (O59.re [1, 3, 4, 5, 6] rfl : Own Z0 W w57 [.blk g38 38 #[.int .i64 (gs[i].kind), .int .i64 (gs[i].lit), .slice AI (gs[i].inp.length) cI], .ro Do (OwnIns Do (gs.take i) vo), .blk g15 24 #[.int .i64 N, .slice Ao i co], .blk g8 24 #[.int .i64 0, .slice none 0 0], .blk g2 24 #[.int .i64 N, .slice A gs.length c]]) ?_
    refine wt1 (v := .agg #[.int .i64 (gs[i].kind), .int .i64 (gs[i].lit), .slice A55 (gs[i].inp.length) c56]) rfl (fun ρ e W => ex_build (cells := #[.int .i64 (gs[i].kind), .int .i64 (gs[i].lit), .slice A55 (gs[i].inp.length) c56]) st38 (e.parts rfl) rfl) rfl rfl ?_
    obtain ⟨g62, w63, r64, O65, hg66, hs67⟩ := own_slice O59 el22 ze38 1 [(0, .agg #[.int .i64 (gs[i].kind), .int .i64 (gs[i].lit), .slice A55 (gs[i].inp.length) c56])] (cs := #[.int .i64 (gs[i].kind), .int .i64 (gs[i].lit), .slice A55 (gs[i].inp.length) c56]) (by decide) (by kernel_rfl)
    refine wt2 (v := .slice (some ⟨g62, 0, none⟩) 1 1) rfl (fun ρ e => r64 ρ _ _ _ _ _ _ (e.parts rfl)) rfl rfl (O65.re [2, 4, 5, 6, 7] rfl : Own Z0 W w63 [.blk g38 38 #[.int .i64 (gs[i].kind), .int .i64 (gs[i].lit), .slice AI (gs[i].inp.length) cI], .ro Do (OwnIns Do (gs.take i) vo), .blk g15 24 #[.int .i64 N, .slice Ao i co], .blk g8 24 #[.int .i64 0, .slice none 0 0], .blk g2 24 #[.int .i64 N, .slice A gs.length c]]) ?_
    obtain ⟨A68, c69, w70, r71, O72, hz73, hc74⟩ := own_app1 (O65.re [3, 0, 1, 2, 4, 5, 6, 7] rfl : Own Z0 W w63 [.row (.slice Ao i co) 38 3 i (gcells (gs.take i) vo), .blk g62 38 #[.int .i64 (gs[i].kind), .int .i64 (gs[i].lit), .slice A55 (gs[i].inp.length) c56], .row (.slice A55 (gs[i].inp.length) c56) 3 1 (gs[i].inp.length) (intCs gs[i].inp), .blk g38 38 #[.int .i64 (gs[i].kind), .int .i64 (gs[i].lit), .slice AI (gs[i].inp.length) cI], .ro Do (OwnIns Do (gs.take i) vo), .blk g15 24 #[.int .i64 N, .slice Ao i co], .blk g8 24 #[.int .i64 0, .slice none 0 0], .blk g2 24 #[.int .i64 N, .slice A gs.length c]]) ap22 ((O65.re [3, 0, 1, 2, 4, 5, 6, 7] rfl : Own Z0 W w63 [.row (.slice Ao i co) 38 3 i (gcells (gs.take i) vo), .blk g62 38 #[.int .i64 (gs[i].kind), .int .i64 (gs[i].lit), .slice A55 (gs[i].inp.length) c56], .row (.slice A55 (gs[i].inp.length) c56) 3 1 (gs[i].inp.length) (intCs gs[i].inp), .blk g38 38 #[.int .i64 (gs[i].kind), .int .i64 (gs[i].lit), .slice AI (gs[i].inp.length) cI], .ro Do (OwnIns Do (gs.take i) vo), .blk g15 24 #[.int .i64 N, .slice Ao i co], .blk g8 24 #[.int .i64 0, .slice none 0 0], .blk g2 24 #[.int .i64 N, .slice A gs.length c]]).blk 1 rfl) (cells := [.int .i64 (gs[i].kind), .int .i64 (gs[i].lit), .slice A55 (gs[i].inp.length) c56]) rfl rfl (by omega) (by omega) (ys := (gcells (gs.take (i + 1)) (vo ++ [Value.slice A55 (gs[i].inp.length) c56]))) (by rw [htk]; exact (gcells_snoc gs[i] (Value.slice A55 (gs[i].inp.length) c56) (gs.take i) vo (O65.ro 4 rfl : OwnIns Do (gs.take i) vo _).1).symm)
    refine wt2 (v := .slice A68 (i + 1) c69) rfl (fun ρ e => r71 ρ _ _ _ _ _ _ _ (e _ _ rfl) (e _ _ rfl)) rfl rfl (O72.re [3, 4, 5, 6, 7] rfl : Own Z0 W w70 [.blk g38 38 #[.int .i64 (gs[i].kind), .int .i64 (gs[i].lit), .slice AI (gs[i].inp.length) cI], .ro Do (OwnIns Do (gs.take i) vo), .blk g15 24 #[.int .i64 N, .slice Ao i co], .blk g8 24 #[.int .i64 0, .slice none 0 0], .blk g2 24 #[.int .i64 N, .slice A gs.length c]]) ?_
    refine wt1 (v := .pointer (some ⟨g15, 1, none⟩)) rfl (fun ρ e W => ex_field (q := 1) fi24_1 (e _ _ rfl) rfl) rfl rfl ?_
    obtain ⟨w75, r76, O77, hs78⟩ := own_put (o := 1) (n := 1) (O72.re [5, 0, 1, 2, 3, 4, 6, 7] rfl : Own Z0 W w70 [.blk g15 24 #[.int .i64 N, .slice Ao i co], .row (.slice A68 (i + 1) c69) 38 3 (i + 1) (gcells (gs.take (i + 1)) (vo ++ [Value.slice A55 (gs[i].inp.length) c56])), .blk g62 38 #[.int .i64 (gs[i].kind), .int .i64 (gs[i].lit), .slice A55 (gs[i].inp.length) c56], .row (.slice A55 (gs[i].inp.length) c56) 3 1 (gs[i].inp.length) (intCs gs[i].inp), .blk g38 38 #[.int .i64 (gs[i].kind), .int .i64 (gs[i].lit), .slice AI (gs[i].inp.length) cI], .ro Do (OwnIns Do (gs.take i) vo), .blk g8 24 #[.int .i64 0, .slice none 0 0], .blk g2 24 #[.int .i64 N, .slice A gs.length c]]) ty22 (.slice A68 (i + 1) c69) [.slice A68 (i + 1) c69] (cs' := #[.int .i64 N, .slice A68 (i + 1) c69]) rfl rfl rfl (Nat.le_of_ble_eq_true rfl) rfl
    refine wt3_none rfl (fun ρ e => r76 ρ _ _ _ _ _ _ (e _ _ rfl) (e _ _ rfl)) rfl ?_
    refine wt_nil ?_
    refine xw_block ?_
    refine xw_next K36 ?_
    refine cw_region ?_
    refine wl_val (v := .int .i64 ((i + 1 : Nat) : Int)) (fun ρ e => ex_arith (k := .i64) (u := (i : Int)) (v := 1) (e _ _ rfl) (e _ _ rfl) (congrArg some ((congrArg _ (by omega)).trans (wrap_in (u := ((i + 1 : Nat) : Int)) (by omega) (by omega))))) rfl rfl ?_
    refine wl_val (v := .int .i64 ((i + 1 : Nat) : Int)) (fun ρ e => ex_move (e _ _ rfl)) rfl rfl ?_
    refine wl_nil ?_
    have O79 := Own.ownsnoc (v := .slice A55 (gs[i].inp.length) c56) (g := gs[i]) (n := gs[i].inp.length) (D := Do) (L := gs.take i) (vs := vo) (LL := [.blk g15 24 #[.int .i64 N, .slice A68 (i + 1) c69], .row (.slice A68 (i + 1) c69) 38 3 (i + 1) (gcells (gs.take (i + 1)) (vo ++ [Value.slice A55 (gs[i].inp.length) c56])), .blk g62 38 #[.int .i64 (gs[i].kind), .int .i64 (gs[i].lit), .slice A55 (gs[i].inp.length) c56], .blk g38 38 #[.int .i64 (gs[i].kind), .int .i64 (gs[i].lit), .slice AI (gs[i].inp.length) cI], .blk g8 24 #[.int .i64 0, .slice none 0 0], .blk g2 24 #[.int .i64 N, .slice A gs.length c]]) (O77.re [3, 5, 0, 1, 2, 4, 6, 7] rfl : Own Z0 W w75 [.row (.slice A55 (gs[i].inp.length) c56) 3 1 (gs[i].inp.length) (intCs gs[i].inp), .ro Do (OwnIns Do (gs.take i) vo), .blk g15 24 #[.int .i64 N, .slice A68 (i + 1) c69], .row (.slice A68 (i + 1) c69) 38 3 (i + 1) (gcells (gs.take (i + 1)) (vo ++ [Value.slice A55 (gs[i].inp.length) c56])), .blk g62 38 #[.int .i64 (gs[i].kind), .int .i64 (gs[i].lit), .slice A55 (gs[i].inp.length) c56], .blk g38 38 #[.int .i64 (gs[i].kind), .int .i64 (gs[i].lit), .slice AI (gs[i].inp.length) cI], .blk g8 24 #[.int .i64 0, .slice none 0 0], .blk g2 24 #[.int .i64 N, .slice A gs.length c]]) rfl
    rw [← htk] at O79
    refine xw_round K32 (i + 1, A68, c69, (vo ++ [Value.slice A55 (gs[i].inp.length) c56]), (fun k => Do k ∨ (Value.ownBlock (.slice A55 (gs[i].inp.length) c56)) = some k)) (by show gs.length - (i + 1) < gs.length - i; omega) ⟨(by show i + 1 ≤ _; omega), (fun k hk => hk.elim (hDo k) (fun q => O59n k q)), (O79.re [2, 0, 1, 5, 6] rfl : Own Z0 W w75 [.row (.slice A68 (i + 1) c69) 38 3 (i + 1) (gcells (gs.take (i + 1)) (vo ++ [Value.slice A55 (gs[i].inp.length) c56])), .ro (fun k => Do k ∨ (Value.ownBlock (.slice A55 (gs[i].inp.length) c56)) = some k) (OwnIns (fun k => Do k ∨ (Value.ownBlock (.slice A55 (gs[i].inp.length) c56)) = some k) (gs.take (i + 1)) (vo ++ [Value.slice A55 (gs[i].inp.length) c56])), .blk g15 24 #[.int .i64 N, .slice A68 (i + 1) c69], .blk g8 24 #[.int .i64 0, .slice none 0 0], .blk g2 24 #[.int .i64 N, .slice A gs.length c]])⟩ ⟨rfl, rfl, rfl, rfl, rfl, trivial⟩
  · have hie : i = gs.length := by omega
    refine cw_seq (fun FK80 K80 => ?_)
    refine cw_region ?_
    refine wl_val (v := .bool false) (fun ρ e => ex_cmp (u := (i : Int)) (v := ((gs.length : Nat) : Int)) (e _ _ rfl) (e _ _ rfl) (lss0 (by omega))) rfl rfl ?_
    refine wl_nil ?_
    refine xw_next K80 ?_
    refine cw_seq (fun FK81 K81 => ?_)
    refine cw_false rfl ?_
    refine cw_exit ?_
    refine xw_past (by intro h; cases h) ?_
    refine xw_past (by intro h; cases h) ?_
    refine xw_here ?_
    refine xw_next K25 ?_
    refine cw_seq (fun FK82 K82 => ?_)
    refine cw_region ?_
    refine wl_val (v := .agg #[.int .i64 N, .slice Ao i co]) (fun ρ e => ex_loadN (vs := [.int .i64 N, .slice Ao i co]) ty24 (e _ _ rfl) rfl (O33.cells 2 0 rfl rfl)) rfl rfl ?_
    obtain ⟨w83, r84, O85, hs86⟩ := own_put (o := 0) (n := 2) (O33.re [3, 0, 1, 2, 4] rfl : Own Z0 W w30 [.blk g8 24 #[.int .i64 0, .slice none 0 0], .row (.slice Ao i co) 38 3 i (gcells (gs.take i) vo), .ro Do (OwnIns Do (gs.take i) vo), .blk g15 24 #[.int .i64 N, .slice Ao i co], .blk g2 24 #[.int .i64 N, .slice A gs.length c]]) ty24 (.agg #[.int .i64 N, .slice Ao i co]) [.int .i64 N, .slice Ao i co] (cs' := #[.int .i64 N, .slice Ao i co]) rfl rfl rfl (Nat.le_of_ble_eq_true rfl) rfl
    refine wl_none (fun ρ e => r84 ρ _ _ _ _ _ _ (e _ _ rfl) (e _ _ rfl)) rfl ?_
    refine wl_nil ?_
    refine xw_next K82 ?_
    refine cw_ret ?_
    refine xw_ret (v := .agg #[.int .i64 N, .slice Ao i co]) (fun T hT => res1c rfl T _ (hT 2 _ rfl) (run_loadN (vs := [.int .i64 N, .slice Ao i co]) ty24 rfl (O85.cells 0 0 rfl rfl))) ?_
    have O87 := (O85.re [1, 2] rfl : Own Z0 W w83 [.row (.slice Ao i co) 38 3 i (gcells (gs.take i) vo), .ro Do (OwnIns Do (gs.take i) vo)])
    rw [hie, List.take_length] at O87
    exact ⟨Ao, co, Do, vo, by rw [hie], O87, hDo⟩
end Go.Proofs.YtbemhgojfehnjaaDoor
namespace Go.Proofs.YtbemhgojfehnjaaDoor
open Go Go.RowKit

end Go.Proofs.YtbemhgojfehnjaaDoor
namespace Go.Proofs.YtbemhgojfehnjaaDoor
open Go Go.RowKit

theorem OwnInts.base {w : World} {base base' : Nat} {v : Value} {l : List Int} (h : OwnInts w base v l) (hb : base' ≤ base) : OwnInts w base' v l := by
  refine ⟨h.1, ?_⟩
  rcases h.2 with hn | ⟨g, cap, cur, rfl, hbg, rest⟩
  · exact .inl hn
  · exact .inr ⟨g, cap, cur, rfl, by omega, rest⟩
end Go.Proofs.YtbemhgojfehnjaaDoor
namespace Go.Proofs.YtbemhgojfehnjaaDoor
open Go

def agree (m : Int) (s t : VS) : Prop := ∀ v, 1 ≤ v → v ≤ m → s.has v = t.has v
def noneOver (m : Int) (s : VS) : Prop := ∀ v, m < v → s.has v = false
def okL (m l : Int) : Prop := (1 ≤ l ∧ l ≤ m) ∨ (-m ≤ l ∧ l ≤ -1)

theorem agree.refl (m : Int) (s : VS) : agree m s s := fun _ _ _ => rfl
theorem agree.symm {m : Int} {s t : VS} (h : agree m s t) : agree m t s := fun v h1 h2 => (h v h1 h2).symm
theorem agree.trans {m : Int} {s t u : VS} (h : agree m s t) (k : agree m t u) : agree m s u := fun v h1 h2 => (h v h1 h2).trans (k v h1 h2)
theorem agree.mono {m m' : Int} {s t : VS} (h : agree m s t) (hm : m' ≤ m) : agree m' s t := fun v h1 h2 => h v h1 (by omega)
theorem okL.mono {m m' l : Int} (h : okL m l) (hm : m ≤ m') : okL m' l := by unfold okL at *; omega
theorem okL.neg {m l : Int} (h : okL m l) : okL m (-l) := by unfold okL at *; omega
/-! The clauses of a kind. -/
def kindVal (kind : Int) (bs : List Bool) : Bool :=
  if kind = 1 then true else if kind = 3 then decide (onesOf bs = 0) else if kind = 4 then decide (onesOf bs = bs.length) else if kind = 5 then decide (0 < onesOf bs)
  else if kind = 6 then decide (onesOf bs % 2 = 1) else if kind = 7 then decide (onesOf bs ≠ 1) else if kind = 8 then (if bs.getD 0 false then bs.getD 1 false else bs.getD 2 false) else false
end Go.Proofs.YtbemhgojfehnjaaDoor
namespace Go.Proofs.YtbemhgojfehnjaaDoor
open Go Go.RowKit

set_option maxHeartbeats 400000 in
theorem ref07_size (N : Int) (V : Value) (gs : List Gate) (w : World) (B : Nat) (hB : B ≤ w.heap.size) (hg : GatesV w B V gs) (hs : sizeOf gs ≤ 4611686018427387904) :
    Calls Tryd.prog 32 #[.agg #[.int .i64 N, V]] w fun e w' => e = .returned (.int .i64 ((sizeOf gs : Nat) : Int)) ∧ Below w.heap.size w w' := by
  obtain ⟨A, c, rfl, hlc, hcm, _⟩ := id hg
  unfold maxLen at hcm
  go_enter Tryd.func32, Tryd.ntmps32
  go_wp2
  go_loop [3, 4] (fun s i => ∃ k : Nat, k ≤ gs.length ∧ i = .int .i64 k ∧ s = .int .i64 ((sizeTo gs k : Nat) : Int)) (fun _ i => gs.length - (intOf i).toNat)
  case atStart => exact ⟨0, Nat.zero_le _, rfl, by rw [sizeTo_zero]; rfl⟩
  case round =>
    obtain ⟨k, hk, rfl, rfl⟩ := hrel
    by_cases hlt : k < gs.length
    · obtain ⟨b, o, A', c', rfl, hbB, h0, h1, h2, hI, hnc, hcm'⟩ := hg.at_ (Below.refl _ _) hlt
      have hbl : b < w.heap.size := by omega
      have hsz := Lib.hid (sizeTo_succ gs k hlt)
      have hle1 := sizeTo_le gs (k + 1)
      have hle2 := sizeTo_succ gs k hlt
      have hle : sizeTo gs k + gs[k].inp.length ≤ 4611686018427387904 := by omega
      clear hle1 hle2
      go_wp2
      go_round
      case rel => exact ⟨k + 1, by omega, by go_num, by rw [hsz.out]; simp⟩
      case measure => simp [intOf]; omega
    · go_wp2
      go_ret
      have : k = gs.length := by omega
      subst this
      exact ⟨rfl, by go_grown⟩

set_option maxHeartbeats 800000 in
theorem ref07_allowed (k n : Int) (w : World) :
    Calls Tryd.prog 49 #[(.int .i64 (k)), (.int .i64 (n))] w fun e w' => e = .returned (.bool (allowedB k n)) ∧ w = w' := by
  by_cases h0 : k = 0
  · subst h0
    go_enter Tryd.func49, Tryd.ntmps49
    go_wp2
    go_ret
    exact ⟨ret_bool (by simp [allowedB]), rfl⟩
  by_cases h1 : k = 1
  · subst h1
    go_enter Tryd.func49, Tryd.ntmps49
    go_wp2
    go_ret
    exact ⟨ret_bool (by simp [allowedB]), rfl⟩
  by_cases h2 : k = 2
  · subst h2
    go_enter Tryd.func49, Tryd.ntmps49
    go_wp2
    go_ret
    exact ⟨ret_bool (by simp [allowedB]), rfl⟩
  by_cases h3 : k = 3
  · subst h3
    go_enter Tryd.func49, Tryd.ntmps49
    go_wp2
    go_ret
    exact ⟨ret_bool (by simp [allowedB]), rfl⟩
  by_cases h7 : k = 7
  · subst h7
    go_enter Tryd.func49, Tryd.ntmps49
    go_wp2
    go_ret
    exact ⟨ret_bool (by simp [allowedB]), rfl⟩
  by_cases h8 : k = 8
  · subst h8
    go_enter Tryd.func49, Tryd.ntmps49
    go_wp2
    go_ret
    exact ⟨ret_bool (by simp [allowedB]), rfl⟩
  have e0 : (k == 0) = false := by simp [h0]
  have e1 : (k == 1) = false := by simp [h1]
  have e2 : (k == 2) = false := by simp [h2]
  have e3 : (k == 3) = false := by simp [h3]
  have e7 : (k == 7) = false := by simp [h7]
  have e8 : (k == 8) = false := by simp [h8]
  have hv : allowedB k n = (k == 4 || k == 5 || k == 6) := by simp [allowedB, h0, h1, h2, h3, h7, h8]
  rw [hv]
  clear hv h0 h1 h2 h3 h7 h8
  by_cases h4 : k = 4
  · subst h4
    go_enter Tryd.func49, Tryd.ntmps49
    go_wp2
    go_ret
    exact ⟨rfl, rfl⟩
  by_cases h5 : k = 5
  · subst h5
    go_enter Tryd.func49, Tryd.ntmps49
    go_wp2
    go_ret
    exact ⟨rfl, rfl⟩
  have e4 : (k == 4) = false := by simp [h4]
  have e5 : (k == 5) = false := by simp [h5]
  clear h4 h5
  go_enter Tryd.func49, Tryd.ntmps49
  go_wp2
  go_ret
  exact ⟨ret_bool (by simp [e4, e5]), rfl⟩

theorem ref07_literal (l n : Int) (w : World) (h0 : 0 ≤ n) (h1 : n ≤ 128) :
    Calls Tryd.prog 50 #[(.int .i64 (l)), (.int .i64 (n))] w fun e w' => e = .returned (.bool (litOk l n)) ∧ w = w' := by
  have e : litOk l n = (decide (1 ≤ l) && decide (l ≤ n) || decide (l ≤ -1) && decide (-n ≤ l)) := by
    rw [Bool.eq_iff_iff, litOk_iff l n h0 h1]; simp; omega
  rw [e]
  clear e
  by_cases a1 : 1 ≤ l
  · by_cases a2 : l ≤ n
    · go_enter Tryd.func50, Tryd.ntmps50
      go_wp2
      go_ret
      exact ⟨ret_bool (by simp [a1, a2]), rfl⟩
    · have a3 : ¬ l ≤ -1 := by omega
      go_enter Tryd.func50, Tryd.ntmps50
      go_wp2
      go_ret
      exact ⟨ret_bool (by simp; omega), rfl⟩
  · by_cases a2 : l ≤ -1
    · go_enter Tryd.func50, Tryd.ntmps50
      go_wp2
      go_ret
      exact ⟨ret_bool (by simp; try omega), rfl⟩
    · go_enter Tryd.func50, Tryd.ntmps50
      go_wp2
      go_ret
      exact ⟨ret_bool (by simp; try omega), rfl⟩
end Go.Proofs.YtbemhgojfehnjaaDoor

namespace Go.Proofs.YtbemhgojfehnjaaDoor
open Go Go.RowKit

theorem all_take_succ (l : List Int) (k : Nat) (h : k < l.length) (p : Int → Bool) : (l.take (k + 1)).all p = ((l.take k).all p && p l[k]) := by
  rw [List.take_succ_eq_append_getElem h, List.all_append]; simp
theorem all_false (l : List Int) (k : Nat) (h : k < l.length) (p : Int → Bool) (hp : p l[k] = false) : l.all p = false := by
  rw [List.all_eq_false]
  exact ⟨_, List.getElem_mem h, by simp [hp]⟩

set_option maxRecDepth 100000 in
set_option maxHeartbeats 3200000 in
theorem ref07_check (N : Int) (V : Value) (gs : List Gate) (w : World) (B : Nat) (hB : B ≤ w.heap.size) (hg : GatesV w B V gs) (hs : sizeOf gs ≤ 4611686018427387904) :
    Calls Tryd.prog 29 #[.agg #[.int .i64 N, V]] w fun e w' => e = .returned (.int .i64 (checkOf N gs)) ∧ Below w.heap.size w w' := by
  obtain ⟨A, c, rfl, hlc, hcm, _⟩ := id hg
  unfold maxLen at hcm
  obtain ⟨r, hr⟩ : ∃ r, r = checkOf N gs := ⟨_, rfl⟩
  rw [← hr]
  by_cases hN : N < 0 ∨ 128 < N
  · have e : r = 6 := by rw [hr]; unfold checkOf; rw [if_pos hN]
    subst e
    clear hr
    rcases hN with hN | hN
    all_goals
      go_enter Tryd.func29, Tryd.ntmps29
      go_wp2
      go_ret
      exact ⟨rfl, by go_grown⟩
  · have hN0 : 0 ≤ N := by omega
    have hN1 : N ≤ 128 := by omega
    have a1 : ∀ (w1 : World), Below w.heap.size w w1 → Calls Tryd.prog 32 #[.agg #[.int .i64 N, .slice A gs.length c]] w1 fun e w' => e = .returned (.int .i64 ((sizeOf gs : Nat) : Int)) ∧ Below w1.heap.size w1 w' :=
      fun w1 hb => ref07_size N _ gs w1 B (Nat.le_trans hB hb.size) (hg.below (hb.mono hB)) hs
    by_cases hlen : 4096 < gs.length
    · have e : r = 2 := by rw [hr]; unfold checkOf; rw [if_neg hN, if_pos (.inl hlen)]
      subst e
      clear hr hN
      go_enter Tryd.func29, Tryd.ntmps29
      go_wp2
      go_ret
      exact ⟨rfl, by go_grown⟩
    · by_cases hsz : 65536 < sizeOf gs
      · have e : r = 2 := by rw [hr]; unfold checkOf; rw [if_neg hN, if_pos (.inr hsz)]
        subst e
        clear hr hN
        generalize sizeOf gs = sz at *
        have A1 := Lib.hid a1
        clear a1
        go_enter Tryd.func29, Tryd.ntmps29
        go_wp2_with (go_at_call 32; refine (A1.out _ (by go_grown)).mono ?_; rintro e w' ⟨rfl, hbb⟩)
        go_ret
        exact ⟨rfl, Below.trans (by go_grown) (hbb.mono (by simp))⟩
      · have hr1 : goodTo N gs gs.length = false → r = 1 := fun h => by
          rw [hr]; unfold checkOf; rw [if_neg hN, if_neg (by omega), h]; simp
        have hr0 : goodTo N gs gs.length = true → gs.length ≠ 0 → r = 0 := fun h h' => by
          rw [hr]; unfold checkOf; rw [if_neg hN, if_neg (by omega), if_neg h', h]; simp
        have hre : gs.length = 0 → r = 1 := fun h => by
          rw [hr]; unfold checkOf; rw [if_neg hN, if_neg (by omega), if_pos h]
        have HR1 := Lib.hid hr1
        have HR0 := Lib.hid hr0
        have HRE := Lib.hid hre
        clear hr1 hr0 hre hr hN
        generalize sizeOf gs = sz at *
        have A1 := Lib.hid a1
        clear a1
        go_enter Tryd.func29, Tryd.ntmps29
        go_wp2_with (go_at_call 32; refine (A1.out _ (by go_grown)).mono ?_; rintro e w' ⟨rfl, hbb⟩; obtain ⟨hc, hf⟩ := bcell hbb; have hsz' := hbb.size)
        go_loopw [3] (fun i wr => ∃ k : Nat, k ≤ gs.length ∧ i = .int .i64 k ∧ goodTo N gs k = true ∧ Blk wr w.heap.size 24 #[.int .i64 N, .slice A gs.length c] ∧ Below w.heap.size w wr) (fun i _ => gs.length - (intOf i).toNat)
        case atStart => exact ⟨0, Nat.zero_le _, rfl, rfl, (Blk.new _ _ _).keep hbb, Below.trans (by go_grown) (hbb.mono (by simp))⟩
        case round =>
          obtain ⟨k, hk, rfl, hgo, hblk, hb⟩ := hrel
          have HGO := Lib.hid hgo
          clear hgo hc hf hsz'
          have c0 := hblk.cell 0
          have c1 := hblk.cell 1
          simp at c0 c1
          have lt0 := hblk.lt
          by_cases hlt : k < gs.length
          · obtain ⟨b, o, A', c', rfl, hbB, h0, h1, h2, hI, hnc, hcm'⟩ := hg.at_ (hb.mono hB) hlt
            have hbl : b < wr.heap.size := by have := hb.size; omega
            have g1 := goodTo_succ N gs k
            rw [HGO.out, goodAt_eq N gs k hlt, Bool.true_and] at g1
            have hfalse := fun h => HR1.out (goodTo_false N gs k gs.length hlt ((goodAt_eq N gs k hlt).trans h))
            generalize gs[k] = g at h0 h1 h2 hI hnc g1 hfalse
            obtain ⟨gk, gl, gi⟩ := g
            simp only at h0 h1 h2 hI hnc
            have hz : gi.length ≤ 9223372036854775807 := by unfold maxLen at hcm'; omega
            have hgg : goodGate N k ⟨gk, gl, gi⟩ = (allowedB gk gi.length && (if gk = 2 then litOk gl N else decide (gl = 0)) && gi.all (inOk k)) := rfl
            rw [hgg] at g1 hfalse
            clear hgg
            have a1 : ∀ w, Calls Tryd.prog 49 #[(.int .i64 (gk)), .int .i64 (gi.length : Int)] w fun e w' => e = .returned (.bool (allowedB gk gi.length)) ∧ w = w' := ref07_allowed gk gi.length
            have a2 : ∀ w, Calls Tryd.prog 50 #[(.int .i64 (gl)), (.int .i64 (N))] w fun e w' => e = .returned (.bool (litOk gl N)) ∧ w = w' := fun w => ref07_literal gl N w hN0 hN1
            generalize allowedB gk gi.length = y1 at a1 g1 hfalse
            generalize litOk gl N = y2 at a2 g1 hfalse
            have A1' := Lib.hid a1
            have A2 := Lib.hid a2
            have G1 := Lib.hid g1
            have HFL := Lib.hid hfalse
            clear a1 a2 g1 hfalse
            cases y1
            · have e : r = 1 := HFL.out (by simp)
              subst e
              go_wp2_with (go_at_call 49; refine (A1'.out _).mono ?_; rintro e w' ⟨rfl, rfl⟩)
              go_ret
              exact ⟨rfl, hb.alloc hb.size _⟩
            · have inner : (if gk = 2 then y2 else decide (gl = 0)) = true → True := fun _ => trivial
              clear inner
              by_cases hk2 : gk = 2
              · subst hk2
                cases y2
                · have e : r = 1 := HFL.out (by simp)
                  subst e
                  go_wp2_with (first | (go_at_call 49; refine (A1'.out _).mono ?_; rintro e w' ⟨rfl, rfl⟩) | (go_at_call 50; refine (A2.out _).mono ?_; rintro e w' ⟨rfl, rfl⟩))
                  go_ret
                  exact ⟨rfl, hb.alloc hb.size _⟩
                · go_wp2_with (first | (go_at_call 49; refine (A1'.out _).mono ?_; rintro e w' ⟨rfl, rfl⟩) | (go_at_call 50; refine (A2.out _).mono ?_; rintro e w' ⟨rfl, rfl⟩))
                  go_loop [5] (fun j => ∃ n : Nat, n ≤ gi.length ∧ j = .int .i64 n ∧ (gi.take n).all (inOk k) = true) (fun j => gi.length - (intOf j).toNat)
                  case atStart => exact ⟨0, Nat.zero_le _, rfl, rfl⟩
                  case round =>
                    obtain ⟨n, hn, rfl, hall⟩ := hrel
                    have HALL := Lib.hid hall
                    clear hall
                    by_cases hlt2 : n < gi.length
                    · obtain ⟨b', o', rfl, hbB', hcell⟩ := hI.at_ (Below.refl _ _) hlt2
                      have hbl' : b' < wr.heap.size := by have := hb.size; omega
                      have hs1 := all_take_succ gi n hlt2 (inOk k)
                      have hs2 := all_false gi n hlt2 (inOk k)
                      generalize gi[n] = x at hcell hs1 hs2
                      rw [HALL.out, Bool.true_and] at hs1
                      have HS1 := Lib.hid hs1
                      have HS2 := Lib.hid hs2
                      clear hs1 hs2
                      by_cases hx : 0 ≤ x ∧ x < k
                      · have ho : inOk k x = true := by unfold inOk; simp; exact hx
                        have HO := Lib.hid ho
                        obtain ⟨hx1, hx2⟩ := hx
                        clear ho
                        go_wp2
                        go_round
                        case rel => exact ⟨n + 1, by omega, by go_num, by rw [HS1.out, HO.out]⟩
                        case measure => simp [intOf]; omega
                      · have ho : inOk k x = false := by unfold inOk; simp; omega
                        have e : r = 1 := HFL.out (by rw [HS2.out ho]; simp)
                        subst e
                        clear ho
                        rcases (show x < 0 ∨ (0 ≤ x ∧ (k : Int) ≤ x) from by omega) with h9 | ⟨h9, h9'⟩
                        all_goals
                          go_wp2
                          go_ret
                          exact ⟨rfl, hb.alloc hb.size _⟩
                    · have e : n = gi.length := by omega
                      subst e
                      rw [List.take_length] at HALL
                      go_wp2
                      go_roundw
                      case rel => exact ⟨k + 1, by omega, by go_num, by rw [G1.out, HALL.out]; simp, hblk.alloc _, hb.alloc hb.size _⟩
                      case measure => simp [intOf]; omega
              · have hk2' : (gk == 2) = false := by simp [hk2]
                have hk3 : (gk != 2) = true := by simp [hk2]
                rw [if_neg hk2] at G1 HFL
                by_cases hl : gl = 0
                · have hl2 : decide (gl = 0) = true := by simp [hl]
                  rw [hl2] at G1 HFL
                  subst hl
                  clear hl2 hk2
                  go_wp2_with (go_at_call 49; refine (A1'.out _).mono ?_; rintro e w' ⟨rfl, rfl⟩)
                  go_loop [5] (fun j => ∃ n : Nat, n ≤ gi.length ∧ j = .int .i64 n ∧ (gi.take n).all (inOk k) = true) (fun j => gi.length - (intOf j).toNat)
                  case atStart => exact ⟨0, Nat.zero_le _, rfl, rfl⟩
                  case round =>
                    obtain ⟨n, hn, rfl, hall⟩ := hrel
                    have HALL := Lib.hid hall
                    clear hall
                    by_cases hlt2 : n < gi.length
                    · obtain ⟨b', o', rfl, hbB', hcell⟩ := hI.at_ (Below.refl _ _) hlt2
                      have hbl' : b' < wr.heap.size := by have := hb.size; omega
                      have hs1 := all_take_succ gi n hlt2 (inOk k)
                      have hs2 := all_false gi n hlt2 (inOk k)
                      generalize gi[n] = x at hcell hs1 hs2
                      rw [HALL.out, Bool.true_and] at hs1
                      have HS1 := Lib.hid hs1
                      have HS2 := Lib.hid hs2
                      clear hs1 hs2
                      by_cases hx : 0 ≤ x ∧ x < k
                      · have ho : inOk k x = true := by unfold inOk; simp; exact hx
                        have HO := Lib.hid ho
                        obtain ⟨hx1, hx2⟩ := hx
                        clear ho
                        go_wp2
                        go_round
                        case rel => exact ⟨n + 1, by omega, by go_num, by rw [HS1.out, HO.out]⟩
                        case measure => simp [intOf]; omega
                      · have ho : inOk k x = false := by unfold inOk; simp; omega
                        have e : r = 1 := HFL.out (by rw [HS2.out ho]; simp)
                        subst e
                        clear ho
                        rcases (show x < 0 ∨ (0 ≤ x ∧ (k : Int) ≤ x) from by omega) with h9 | ⟨h9, h9'⟩
                        all_goals
                          go_wp2
                          go_ret
                          exact ⟨rfl, hb.alloc hb.size _⟩
                    · have e : n = gi.length := by omega
                      subst e
                      rw [List.take_length] at HALL
                      go_wp2
                      go_roundw
                      case rel => exact ⟨k + 1, by omega, by go_num, by rw [G1.out, HALL.out]; simp, hblk.alloc _, hb.alloc hb.size _⟩
                      case measure => simp [intOf]; omega
                · have hl' : (gl != 0) = true := by simp [hl]
                  have hl2 : decide (gl = 0) = false := by simp [hl]
                  rw [hl2] at HFL
                  have e : r = 1 := HFL.out (by simp)
                  subst e
                  clear hl2 hk2 hl
                  go_wp2_with (go_at_call 49; refine (A1'.out _).mono ?_; rintro e w' ⟨rfl, rfl⟩)
                  all_goals (go_ret; exact ⟨rfl, hb.alloc hb.size _⟩)
          · have e : k = gs.length := by omega
            subst e
            by_cases h0 : gs.length = 0
            · have e : r = 1 := HRE.out h0
              subst e
              have h0' : ((gs.length : Int) == 0) = true := by simp [h0]
              clear h0
              go_wp2
              go_ret
              exact ⟨rfl, hb⟩
            · have e : r = 0 := HR0.out HGO.out h0
              subst e
              have h0' : ((gs.length : Int) == 0) = false := by simp [h0]
              clear h0
              go_wp2
              go_ret
              exact ⟨rfl, hb⟩
end Go.Proofs.YtbemhgojfehnjaaDoor

namespace Go.Proofs.YtbemhgojfehnjaaDoor
open Go Go.RowKit

def refHolds (s : VS) (l : Int) : Bool := if l < 0 then !s.has (-l) else s.has l
end Go.Proofs.YtbemhgojfehnjaaDoor
namespace Go.Proofs.YtbemhgojfehnjaaDoor
open Go Go.RowKit

end Go.Proofs.YtbemhgojfehnjaaDoor
namespace Go.Proofs.YtbemhgojfehnjaaDoor
open Go Go.RowKit
theorem works_ {W : World} (tab : Tab W) : Calls Tryd.prog 14 #[] W fun e w' => e = .returned (.bool true) ∧ Below W.heap.size W w' := by
  have O0 : Own Z0 W W [] := Own.start W
  refine sx_enter (args := []) Tryd.func14 rfl rfl (by simp) ?_
  refine cw_seq (fun FK1 K1 => ?_)
  refine cw_region ?_
  refine wl_val (v := .bool false) (fun ρ e => ex_assign (e _ _ rfl)) rfl rfl ?_
  refine wl_nil ?_
  refine xw_next K1 ?_
  refine cw_seq (fun FK2 K2 => ?_)
  refine cw_region ?_
  refine wl_call (args := [.int .i64 1]) in_28 rfl rfl rfl ?_
  refine (lit_ _ 1).mono ?_
  rintro _ w3 ⟨rfl, hb4⟩
  have O5 : Own Z0 W w3 [] := O0.below hb4
  refine ⟨_, rfl, ?_⟩
  obtain ⟨g6, w7, r8, O9, hg10, hs11⟩ := own_slice O5 el36 ze3 2 [(0, .int .i64 0), (1, .int .i64 0)] (cs := #[.int .i64 0, .int .i64 0]) (by decide) (by kernel_rfl)
  refine wl_val (v := .slice (some ⟨g6, 0, none⟩) 2 2) (fun ρ e => r8 ρ _ _ _ _ _ _ (e.parts rfl)) rfl rfl ?_
  refine wl_call (args := [.int .i64 4, .slice (some ⟨g6, 0, none⟩) 2 2]) in_26 rfl rfl rfl ?_
  refine (gate_ _ 4).mono ?_
  rintro _ w12 ⟨rfl, hb13⟩
  have O14 : Own Z0 W w12 [.blk g6 3 #[.int .i64 0, .int .i64 0]] := O9.below hb13
  refine ⟨_, rfl, ?_⟩
  obtain ⟨g15, w16, r17, O18, hg19, hs20⟩ := own_slice O14 el36 ze3 1 [(0, .int .i64 1)] (cs := #[.int .i64 1]) (by decide) (by kernel_rfl)
  refine wl_val (v := .slice (some ⟨g15, 0, none⟩) 1 1) (fun ρ e => r17 ρ _ _ _ _ _ _ (e.parts rfl)) rfl rfl ?_
  refine wl_call (args := [.int .i64 3, .slice (some ⟨g15, 0, none⟩) 1 1]) in_26 rfl rfl rfl ?_
  refine (gate_ _ 3).mono ?_
  rintro _ w21 ⟨rfl, hb22⟩
  have O23 : Own Z0 W w21 [.blk g15 3 #[.int .i64 1], .blk g6 3 #[.int .i64 0, .int .i64 0]] := O18.below hb22
  refine ⟨_, rfl, ?_⟩
  obtain ⟨g24, w25, r26, O27, hg28, hs29⟩ := own_slice O23 el36 ze3 1 [(0, .int .i64 2)] (cs := #[.int .i64 2]) (by decide) (by kernel_rfl)
  refine wl_val (v := .slice (some ⟨g24, 0, none⟩) 1 1) (fun ρ e => r26 ρ _ _ _ _ _ _ (e.parts rfl)) rfl rfl ?_
  refine wl_call (args := [.int .i64 3, .slice (some ⟨g24, 0, none⟩) 1 1]) in_26 rfl rfl rfl ?_
  refine (gate_ _ 3).mono ?_
  rintro _ w30 ⟨rfl, hb31⟩
  have O32 : Own Z0 W w30 [.blk g24 3 #[.int .i64 2], .blk g15 3 #[.int .i64 1], .blk g6 3 #[.int .i64 0, .int .i64 0]] := O27.below hb31
  refine ⟨_, rfl, ?_⟩
  obtain ⟨g33, w34, r35, O36, hg37, hs38⟩ := own_slice O32 el22 ze38 4 [(0, .agg #[.int .i64 2, .int .i64 1, .slice none 0 0]), (1, .agg #[.int .i64 4, .int .i64 0, .slice (some ⟨g6, 0, none⟩) 2 2]), (2, .agg #[.int .i64 3, .int .i64 0, .slice (some ⟨g15, 0, none⟩) 1 1]), (3, .agg #[.int .i64 3, .int .i64 0, .slice (some ⟨g24, 0, none⟩) 1 1])] (cs := #[.int .i64 2, .int .i64 1, .slice none 0 0, .int .i64 4, .int .i64 0, .slice (some ⟨g6, 0, none⟩) 2 2, .int .i64 3, .int .i64 0, .slice (some ⟨g15, 0, none⟩) 1 1, .int .i64 3, .int .i64 0, .slice (some ⟨g24, 0, none⟩) 1 1]) (by decide) (by kernel_rfl)
  refine wl_val (v := .slice (some ⟨g33, 0, none⟩) 4 4) (fun ρ e => r35 ρ _ _ _ _ _ _ (e.parts rfl)) rfl rfl ?_
  refine wl_call (args := [.int .i64 1, .slice (some ⟨g33, 0, none⟩) 4 4]) in_25 rfl rfl rfl ?_
  refine (circuit_ _ 1).mono ?_
  rintro _ w39 ⟨rfl, hb40⟩
  have O41 : Own Z0 W w39 [.blk g33 38 #[.int .i64 2, .int .i64 1, .slice none 0 0, .int .i64 4, .int .i64 0, .slice (some ⟨g6, 0, none⟩) 2 2, .int .i64 3, .int .i64 0, .slice (some ⟨g15, 0, none⟩) 1 1, .int .i64 3, .int .i64 0, .slice (some ⟨g24, 0, none⟩) 1 1], .blk g24 3 #[.int .i64 2], .blk g15 3 #[.int .i64 1], .blk g6 3 #[.int .i64 0, .int .i64 0]] := O36.below hb40
  refine ⟨_, rfl, ?_⟩
  obtain ⟨g42, w43, r44, O45, hg46, hs47⟩ := own_alloc O41 24 ze24 rfl
  refine wl_val (v := .pointer (some ⟨g42, 0, none⟩)) (fun ρ e => r44 ρ _ _ _ _ _) rfl rfl ?_
  obtain ⟨w48, r49, O50, hs51⟩ := own_put (o := 0) (n := 2) O45 ty24 (.agg #[.int .i64 1, .slice (some ⟨g33, 0, none⟩) 4 4]) [.int .i64 1, .slice (some ⟨g33, 0, none⟩) 4 4] (cs' := #[.int .i64 1, .slice (some ⟨g33, 0, none⟩) 4 4]) rfl rfl rfl (Nat.le_of_ble_eq_true rfl) rfl
  refine wl_none (fun ρ e => r49 ρ _ _ _ _ _ _ (e _ _ rfl) (e _ _ rfl)) rfl ?_
  refine wl_nil ?_
  refine xw_next K2 ?_
  refine cw_seq (fun FK52 K52 => ?_)
  refine cw_drawn (fun X => Own Z0 W X [.blk g42 24 #[.int .i64 1, .slice (some ⟨g33, 0, none⟩) 4 4], .blk g33 38 #[.int .i64 2, .int .i64 1, .slice none 0 0, .int .i64 4, .int .i64 0, .slice (some ⟨g6, 0, none⟩) 2 2, .int .i64 3, .int .i64 0, .slice (some ⟨g15, 0, none⟩) 1 1, .int .i64 3, .int .i64 0, .slice (some ⟨g24, 0, none⟩) 1 1], .blk g24 3 #[.int .i64 2], .blk g15 3 #[.int .i64 1], .blk g6 3 #[.int .i64 0, .int .i64 0]]) 26 [(0, 0), (1, 2), (2, 2), (3, 2), (4, 2), (5, 1), (6, 0), (7, 1), (8, 2), (9, 1), (10, 1), (11, 0), (12, 1), (13, 2), (14, 1), (15, 1), (16, 1), (17, 0), (18, 2), (19, 1), (20, 1), (21, 1), (22, 2), (23, 2), (24, 1), (25, 1), (26, 3)] (by kernel_rfl) (by kernel_rfl) (PQ.then_ PQ.body) (O50).drew ?_
  have O53 : Own Z0 W w48.drew [.blk g42 24 #[.int .i64 1, .slice (some ⟨g33, 0, none⟩) 4 4], .blk g33 38 #[.int .i64 2, .int .i64 1, .slice none 0 0, .int .i64 4, .int .i64 0, .slice (some ⟨g6, 0, none⟩) 2 2, .int .i64 3, .int .i64 0, .slice (some ⟨g15, 0, none⟩) 1 1, .int .i64 3, .int .i64 0, .slice (some ⟨g24, 0, none⟩) 1 1], .blk g24 3 #[.int .i64 2], .blk g15 3 #[.int .i64 1], .blk g6 3 #[.int .i64 0, .int .i64 0]] := O50.drew
  refine wt0 (v := .agg #[.int .i64 1, .slice (some ⟨g33, 0, none⟩) 4 4]) rfl (fun ρ e W hW => ex_loadN (vs := [.int .i64 1, .slice (some ⟨g33, 0, none⟩) 4 4]) ty24 (e _ _ rfl) rfl (hW.cells 0 0 rfl rfl)) rfl rfl ?_
  refine wt2_call (args := [.int .i64 1]) rfl in_28 rfl rfl rfl ?_
  refine (lit_ _ 1).mono ?_
  rintro _ w54 ⟨rfl, hb55⟩
  have O56 : Own Z0 W w54 [.blk g42 24 #[.int .i64 1, .slice (some ⟨g33, 0, none⟩) 4 4], .blk g33 38 #[.int .i64 2, .int .i64 1, .slice none 0 0, .int .i64 4, .int .i64 0, .slice (some ⟨g6, 0, none⟩) 2 2, .int .i64 3, .int .i64 0, .slice (some ⟨g15, 0, none⟩) 1 1, .int .i64 3, .int .i64 0, .slice (some ⟨g24, 0, none⟩) 1 1], .blk g24 3 #[.int .i64 2], .blk g15 3 #[.int .i64 1], .blk g6 3 #[.int .i64 0, .int .i64 0]] := O53.below hb55
  refine ⟨_, rfl, O56, ?_⟩
  obtain ⟨g57, w58, r59, O60, hg61, hs62⟩ := own_slice O56 el22 ze38 1 [(0, .agg #[.int .i64 2, .int .i64 1, .slice none 0 0])] (cs := #[.int .i64 2, .int .i64 1, .slice none 0 0]) (by decide) (by kernel_rfl)
  refine wt2 (v := .slice (some ⟨g57, 0, none⟩) 1 1) rfl (fun ρ e => r59 ρ _ _ _ _ _ _ (e.parts rfl)) rfl rfl (O60.re [1, 2, 3, 4, 5] rfl : Own Z0 W w58 [.blk g42 24 #[.int .i64 1, .slice (some ⟨g33, 0, none⟩) 4 4], .blk g33 38 #[.int .i64 2, .int .i64 1, .slice none 0 0, .int .i64 4, .int .i64 0, .slice (some ⟨g6, 0, none⟩) 2 2, .int .i64 3, .int .i64 0, .slice (some ⟨g15, 0, none⟩) 1 1, .int .i64 3, .int .i64 0, .slice (some ⟨g24, 0, none⟩) 1 1], .blk g24 3 #[.int .i64 2], .blk g15 3 #[.int .i64 1], .blk g6 3 #[.int .i64 0, .int .i64 0]]) ?_
  refine wt2_call (args := [.int .i64 1, .slice (some ⟨g57, 0, none⟩) 1 1]) rfl in_25 rfl rfl rfl ?_
  refine (circuit_ _ 1).mono ?_
  rintro _ w63 ⟨rfl, hb64⟩
  have O65 : Own Z0 W w63 [.blk g57 38 #[.int .i64 2, .int .i64 1, .slice none 0 0], .blk g42 24 #[.int .i64 1, .slice (some ⟨g33, 0, none⟩) 4 4], .blk g33 38 #[.int .i64 2, .int .i64 1, .slice none 0 0, .int .i64 4, .int .i64 0, .slice (some ⟨g6, 0, none⟩) 2 2, .int .i64 3, .int .i64 0, .slice (some ⟨g15, 0, none⟩) 1 1, .int .i64 3, .int .i64 0, .slice (some ⟨g24, 0, none⟩) 1 1], .blk g24 3 #[.int .i64 2], .blk g15 3 #[.int .i64 1], .blk g6 3 #[.int .i64 0, .int .i64 0]] := O60.below hb64
  refine ⟨_, rfl, (O65.re [1, 2, 3, 4, 5] rfl : Own Z0 W w63 [.blk g42 24 #[.int .i64 1, .slice (some ⟨g33, 0, none⟩) 4 4], .blk g33 38 #[.int .i64 2, .int .i64 1, .slice none 0 0, .int .i64 4, .int .i64 0, .slice (some ⟨g6, 0, none⟩) 2 2, .int .i64 3, .int .i64 0, .slice (some ⟨g15, 0, none⟩) 1 1, .int .i64 3, .int .i64 0, .slice (some ⟨g24, 0, none⟩) 1 1], .blk g24 3 #[.int .i64 2], .blk g15 3 #[.int .i64 1], .blk g6 3 #[.int .i64 0, .int .i64 0]]), ?_⟩
  refine wt2_call (args := [.agg #[.int .i64 1, .slice (some ⟨g33, 0, none⟩) 4 4], .agg #[.int .i64 1, .slice (some ⟨g57, 0, none⟩) 1 1]]) rfl in_27 rfl rfl rfl ?_
  have h69 := folds_ (N := 1) (M := 1) (gatesV_of (n := 4) (c := 4) (gs := ([⟨2, 1, []⟩, ⟨4, 0, [0, 0]⟩, ⟨3, 0, [1]⟩, ⟨3, 0, [2]⟩] : List Gate)) (vs := ([.slice none 0 0, .slice (some ⟨g6, 0, none⟩) 2 2, .slice (some ⟨g15, 0, none⟩) 1 1, .slice (some ⟨g24, 0, none⟩) 1 1] : List Value)) (D := fun k => k < w63.heap.size) (fun j v hj => ((O65.blk 2 rfl : Blk _ g33 38 (gcells ([⟨2, 1, []⟩, ⟨4, 0, [0, 0]⟩, ⟨3, 0, [1]⟩, ⟨3, 0, [2]⟩] : List Gate) ([.slice none 0 0, .slice (some ⟨g6, 0, none⟩) 2 2, .slice (some ⟨g15, 0, none⟩) 1 1, .slice (some ⟨g24, 0, none⟩) 1 1] : List Value)).toArray).cell j).trans (by simpa using hj)) (Ins.cons (IntsD.nil _ _) (Ins.cons ((IntsD.of_blk (n := 2) (l := [0, 0]) (O65.blk 5 rfl) rfl (by unfold maxLen; omega)).mono (fun k hk => hk ▸ (O65.blk 5 rfl).lt)) (Ins.cons ((IntsD.of_blk (n := 1) (l := [1]) (O65.blk 4 rfl) rfl (by unfold maxLen; omega)).mono (fun k hk => hk ▸ (O65.blk 4 rfl).lt)) (Ins.cons ((IntsD.of_blk (n := 1) (l := [2]) (O65.blk 3 rfl) rfl (by unfold maxLen; omega)).mono (fun k hk => hk ▸ (O65.blk 3 rfl).lt)) (Ins.nil _ _))))) (fun _ h => h) (O65.blk 2 rfl).lt rfl (Nat.le_refl _) (by unfold maxLen; omega)) (gatesV_of (n := 1) (c := 1) (gs := ([⟨2, 1, []⟩] : List Gate)) (vs := ([.slice none 0 0] : List Value)) (D := fun k => k < w63.heap.size) (fun j v hj => ((O65.blk 0 rfl : Blk _ g57 38 (gcells ([⟨2, 1, []⟩] : List Gate) ([.slice none 0 0] : List Value)).toArray).cell j).trans (by simpa using hj)) (Ins.cons (IntsD.nil _ _) (Ins.nil _ _)) (fun _ h => h) (O65.blk 0 rfl).lt rfl (Nat.le_refl _) (by unfold maxLen; omega)) (by decide) (tab.below (Nat.le_refl _) O65.old) (by intro g hg; revert g hg; decide) (by decide)
  rw [show decide (checkOf 1 ([⟨2, 1, []⟩, ⟨4, 0, [0, 0]⟩, ⟨3, 0, [1]⟩, ⟨3, 0, [2]⟩] : List Gate) = 0 ∧ (1 : Int) = 1 ∧ foldOf ([⟨2, 1, []⟩, ⟨4, 0, [0, 0]⟩, ⟨3, 0, [1]⟩, ⟨3, 0, [2]⟩] : List Gate) = ([⟨2, 1, []⟩] : List Gate)) = true from by kernel_rfl] at h69
  refine h69.mono ?_
  rintro _ w66 ⟨rfl, hb67⟩
  have O68 : Own Z0 W w66 [.blk g57 38 #[.int .i64 2, .int .i64 1, .slice none 0 0], .blk g42 24 #[.int .i64 1, .slice (some ⟨g33, 0, none⟩) 4 4], .blk g33 38 #[.int .i64 2, .int .i64 1, .slice none 0 0, .int .i64 4, .int .i64 0, .slice (some ⟨g6, 0, none⟩) 2 2, .int .i64 3, .int .i64 0, .slice (some ⟨g15, 0, none⟩) 1 1, .int .i64 3, .int .i64 0, .slice (some ⟨g24, 0, none⟩) 1 1], .blk g24 3 #[.int .i64 2], .blk g15 3 #[.int .i64 1], .blk g6 3 #[.int .i64 0, .int .i64 0]] := O65.below hb67
  refine ⟨_, rfl, (O68.re [1, 2, 3, 4, 5] rfl : Own Z0 W w66 [.blk g42 24 #[.int .i64 1, .slice (some ⟨g33, 0, none⟩) 4 4], .blk g33 38 #[.int .i64 2, .int .i64 1, .slice none 0 0, .int .i64 4, .int .i64 0, .slice (some ⟨g6, 0, none⟩) 2 2, .int .i64 3, .int .i64 0, .slice (some ⟨g15, 0, none⟩) 1 1, .int .i64 3, .int .i64 0, .slice (some ⟨g24, 0, none⟩) 1 1], .blk g24 3 #[.int .i64 2], .blk g15 3 #[.int .i64 1], .blk g6 3 #[.int .i64 0, .int .i64 0]]), ?_⟩
  refine wt1 (v := .bool true) rfl (fun ρ e W => ex_move (e _ _ rfl)) rfl rfl ?_
  refine wt0 (v := .agg #[.int .i64 1, .slice (some ⟨g33, 0, none⟩) 4 4]) rfl (fun ρ e W hW => ex_loadN (vs := [.int .i64 1, .slice (some ⟨g33, 0, none⟩) 4 4]) ty24 (e _ _ rfl) rfl (hW.cells 0 0 rfl rfl)) rfl rfl ?_
  refine wt1 (v := .agg #[.int .u64 1, .int .u64 0]) rfl (fun ρ e W => ex_buildA (cells := #[.int .u64 1, .int .u64 0]) ar27 (e.parts rfl) rfl) rfl rfl ?_
  refine wt2_call (args := [.agg #[.int .i64 1, .slice (some ⟨g33, 0, none⟩) 4 4], .agg #[.int .u64 1, .int .u64 0]]) rfl in_15 rfl rfl rfl ?_
  have h73 := circ_eval 1 _ _ 1#64 0#64 _ _ (Nat.le_refl _) (gatesV_of (n := 4) (c := 4) (gs := ([⟨2, 1, []⟩, ⟨4, 0, [0, 0]⟩, ⟨3, 0, [1]⟩, ⟨3, 0, [2]⟩] : List Gate)) (vs := ([.slice none 0 0, .slice (some ⟨g6, 0, none⟩) 2 2, .slice (some ⟨g15, 0, none⟩) 1 1, .slice (some ⟨g24, 0, none⟩) 1 1] : List Value)) (D := fun k => k < w66.heap.size) (fun j v hj => ((O68.blk 2 rfl : Blk _ g33 38 (gcells ([⟨2, 1, []⟩, ⟨4, 0, [0, 0]⟩, ⟨3, 0, [1]⟩, ⟨3, 0, [2]⟩] : List Gate) ([.slice none 0 0, .slice (some ⟨g6, 0, none⟩) 2 2, .slice (some ⟨g15, 0, none⟩) 1 1, .slice (some ⟨g24, 0, none⟩) 1 1] : List Value)).toArray).cell j).trans (by simpa using hj)) (Ins.cons (IntsD.nil _ _) (Ins.cons ((IntsD.of_blk (n := 2) (l := [0, 0]) (O68.blk 5 rfl) rfl (by unfold maxLen; omega)).mono (fun k hk => hk ▸ (O68.blk 5 rfl).lt)) (Ins.cons ((IntsD.of_blk (n := 1) (l := [1]) (O68.blk 4 rfl) rfl (by unfold maxLen; omega)).mono (fun k hk => hk ▸ (O68.blk 4 rfl).lt)) (Ins.cons ((IntsD.of_blk (n := 1) (l := [2]) (O68.blk 3 rfl) rfl (by unfold maxLen; omega)).mono (fun k hk => hk ▸ (O68.blk 3 rfl).lt)) (Ins.nil _ _))))) (fun _ h => h) (O68.blk 2 rfl).lt rfl (Nat.le_refl _) (by unfold maxLen; omega)) (by decide) (by decide) (by decide)
  rw [show evalOf 1 ([⟨2, 1, []⟩, ⟨4, 0, [0, 0]⟩, ⟨3, 0, [1]⟩, ⟨3, 0, [2]⟩] : List Gate) ⟨1#64, 0#64⟩ = true from by kernel_rfl] at h73
  refine h73.mono ?_
  rintro _ w70 ⟨rfl, hb71⟩
  have O72 : Own Z0 W w70 [.blk g57 38 #[.int .i64 2, .int .i64 1, .slice none 0 0], .blk g42 24 #[.int .i64 1, .slice (some ⟨g33, 0, none⟩) 4 4], .blk g33 38 #[.int .i64 2, .int .i64 1, .slice none 0 0, .int .i64 4, .int .i64 0, .slice (some ⟨g6, 0, none⟩) 2 2, .int .i64 3, .int .i64 0, .slice (some ⟨g15, 0, none⟩) 1 1, .int .i64 3, .int .i64 0, .slice (some ⟨g24, 0, none⟩) 1 1], .blk g24 3 #[.int .i64 2], .blk g15 3 #[.int .i64 1], .blk g6 3 #[.int .i64 0, .int .i64 0]] := O68.below hb71
  refine ⟨_, rfl, (O72.re [1, 2, 3, 4, 5] rfl : Own Z0 W w70 [.blk g42 24 #[.int .i64 1, .slice (some ⟨g33, 0, none⟩) 4 4], .blk g33 38 #[.int .i64 2, .int .i64 1, .slice none 0 0, .int .i64 4, .int .i64 0, .slice (some ⟨g6, 0, none⟩) 2 2, .int .i64 3, .int .i64 0, .slice (some ⟨g15, 0, none⟩) 1 1, .int .i64 3, .int .i64 0, .slice (some ⟨g24, 0, none⟩) 1 1], .blk g24 3 #[.int .i64 2], .blk g15 3 #[.int .i64 1], .blk g6 3 #[.int .i64 0, .int .i64 0]]), ?_⟩
  refine wt1 (v := .bool true) rfl (fun ρ e W => ex_pick1 (e _ _ rfl) (e _ _ rfl)) rfl rfl ?_
  refine wt1 (v := .bool true) rfl (fun ρ e W => ex_move (e _ _ rfl)) rfl rfl ?_
  refine wt0 (v := .agg #[.int .i64 1, .slice (some ⟨g33, 0, none⟩) 4 4]) rfl (fun ρ e W hW => ex_loadN (vs := [.int .i64 1, .slice (some ⟨g33, 0, none⟩) 4 4]) ty24 (e _ _ rfl) rfl (hW.cells 0 0 rfl rfl)) rfl rfl ?_
  refine wt1 (v := .agg #[.int .u64 0, .int .u64 0]) rfl (fun ρ e W => ex_buildA (cells := #[.int .u64 0, .int .u64 0]) ar27 (e.parts rfl) rfl) rfl rfl ?_
  refine wt2_call (args := [.agg #[.int .i64 1, .slice (some ⟨g33, 0, none⟩) 4 4], .agg #[.int .u64 0, .int .u64 0]]) rfl in_15 rfl rfl rfl ?_
  have h77 := circ_eval 1 _ _ 0#64 0#64 _ _ (Nat.le_refl _) (gatesV_of (n := 4) (c := 4) (gs := ([⟨2, 1, []⟩, ⟨4, 0, [0, 0]⟩, ⟨3, 0, [1]⟩, ⟨3, 0, [2]⟩] : List Gate)) (vs := ([.slice none 0 0, .slice (some ⟨g6, 0, none⟩) 2 2, .slice (some ⟨g15, 0, none⟩) 1 1, .slice (some ⟨g24, 0, none⟩) 1 1] : List Value)) (D := fun k => k < w70.heap.size) (fun j v hj => ((O72.blk 2 rfl : Blk _ g33 38 (gcells ([⟨2, 1, []⟩, ⟨4, 0, [0, 0]⟩, ⟨3, 0, [1]⟩, ⟨3, 0, [2]⟩] : List Gate) ([.slice none 0 0, .slice (some ⟨g6, 0, none⟩) 2 2, .slice (some ⟨g15, 0, none⟩) 1 1, .slice (some ⟨g24, 0, none⟩) 1 1] : List Value)).toArray).cell j).trans (by simpa using hj)) (Ins.cons (IntsD.nil _ _) (Ins.cons ((IntsD.of_blk (n := 2) (l := [0, 0]) (O72.blk 5 rfl) rfl (by unfold maxLen; omega)).mono (fun k hk => hk ▸ (O72.blk 5 rfl).lt)) (Ins.cons ((IntsD.of_blk (n := 1) (l := [1]) (O72.blk 4 rfl) rfl (by unfold maxLen; omega)).mono (fun k hk => hk ▸ (O72.blk 4 rfl).lt)) (Ins.cons ((IntsD.of_blk (n := 1) (l := [2]) (O72.blk 3 rfl) rfl (by unfold maxLen; omega)).mono (fun k hk => hk ▸ (O72.blk 3 rfl).lt)) (Ins.nil _ _))))) (fun _ h => h) (O72.blk 2 rfl).lt rfl (Nat.le_refl _) (by unfold maxLen; omega)) (by decide) (by decide) (by decide)
  rw [show evalOf 1 ([⟨2, 1, []⟩, ⟨4, 0, [0, 0]⟩, ⟨3, 0, [1]⟩, ⟨3, 0, [2]⟩] : List Gate) ⟨0#64, 0#64⟩ = false from by kernel_rfl] at h77
  refine h77.mono ?_
  rintro _ w74 ⟨rfl, hb75⟩
  have O76 : Own Z0 W w74 [.blk g57 38 #[.int .i64 2, .int .i64 1, .slice none 0 0], .blk g42 24 #[.int .i64 1, .slice (some ⟨g33, 0, none⟩) 4 4], .blk g33 38 #[.int .i64 2, .int .i64 1, .slice none 0 0, .int .i64 4, .int .i64 0, .slice (some ⟨g6, 0, none⟩) 2 2, .int .i64 3, .int .i64 0, .slice (some ⟨g15, 0, none⟩) 1 1, .int .i64 3, .int .i64 0, .slice (some ⟨g24, 0, none⟩) 1 1], .blk g24 3 #[.int .i64 2], .blk g15 3 #[.int .i64 1], .blk g6 3 #[.int .i64 0, .int .i64 0]] := O72.below hb75
  refine ⟨_, rfl, (O76.re [1, 2, 3, 4, 5] rfl : Own Z0 W w74 [.blk g42 24 #[.int .i64 1, .slice (some ⟨g33, 0, none⟩) 4 4], .blk g33 38 #[.int .i64 2, .int .i64 1, .slice none 0 0, .int .i64 4, .int .i64 0, .slice (some ⟨g6, 0, none⟩) 2 2, .int .i64 3, .int .i64 0, .slice (some ⟨g15, 0, none⟩) 1 1, .int .i64 3, .int .i64 0, .slice (some ⟨g24, 0, none⟩) 1 1], .blk g24 3 #[.int .i64 2], .blk g15 3 #[.int .i64 1], .blk g6 3 #[.int .i64 0, .int .i64 0]]), ?_⟩
  refine wt1 (v := .bool true) rfl (fun ρ e W => ex_lnot (b := false) (e _ _ rfl)) rfl rfl ?_
  refine wt1 (v := .bool true) rfl (fun ρ e W => ex_pick1 (e _ _ rfl) (e _ _ rfl)) rfl rfl ?_
  refine wt1 (v := .bool true) rfl (fun ρ e W => ex_move (e _ _ rfl)) rfl rfl ?_
  refine wt0 (v := .agg #[.int .i64 1, .slice (some ⟨g33, 0, none⟩) 4 4]) rfl (fun ρ e W hW => ex_loadN (vs := [.int .i64 1, .slice (some ⟨g33, 0, none⟩) 4 4]) ty24 (e _ _ rfl) rfl (hW.cells 0 0 rfl rfl)) rfl rfl ?_
  refine wt2_call (args := [.agg #[.int .i64 1, .slice (some ⟨g33, 0, none⟩) 4 4]]) rfl in_23 rfl rfl rfl ?_
  have h81 := circ_size 1 _ _ _ _ (Nat.le_refl _) (gatesV_of (n := 4) (c := 4) (gs := ([⟨2, 1, []⟩, ⟨4, 0, [0, 0]⟩, ⟨3, 0, [1]⟩, ⟨3, 0, [2]⟩] : List Gate)) (vs := ([.slice none 0 0, .slice (some ⟨g6, 0, none⟩) 2 2, .slice (some ⟨g15, 0, none⟩) 1 1, .slice (some ⟨g24, 0, none⟩) 1 1] : List Value)) (D := fun k => k < w74.heap.size) (fun j v hj => ((O76.blk 2 rfl : Blk _ g33 38 (gcells ([⟨2, 1, []⟩, ⟨4, 0, [0, 0]⟩, ⟨3, 0, [1]⟩, ⟨3, 0, [2]⟩] : List Gate) ([.slice none 0 0, .slice (some ⟨g6, 0, none⟩) 2 2, .slice (some ⟨g15, 0, none⟩) 1 1, .slice (some ⟨g24, 0, none⟩) 1 1] : List Value)).toArray).cell j).trans (by simpa using hj)) (Ins.cons (IntsD.nil _ _) (Ins.cons ((IntsD.of_blk (n := 2) (l := [0, 0]) (O76.blk 5 rfl) rfl (by unfold maxLen; omega)).mono (fun k hk => hk ▸ (O76.blk 5 rfl).lt)) (Ins.cons ((IntsD.of_blk (n := 1) (l := [1]) (O76.blk 4 rfl) rfl (by unfold maxLen; omega)).mono (fun k hk => hk ▸ (O76.blk 4 rfl).lt)) (Ins.cons ((IntsD.of_blk (n := 1) (l := [2]) (O76.blk 3 rfl) rfl (by unfold maxLen; omega)).mono (fun k hk => hk ▸ (O76.blk 3 rfl).lt)) (Ins.nil _ _))))) (fun _ h => h) (O76.blk 2 rfl).lt rfl (Nat.le_refl _) (by unfold maxLen; omega)) (by decide)
  rw [show ((sizeOf ([⟨2, 1, []⟩, ⟨4, 0, [0, 0]⟩, ⟨3, 0, [1]⟩, ⟨3, 0, [2]⟩] : List Gate) : Nat) : Int) = 4 from by kernel_rfl] at h81
  refine h81.mono ?_
  rintro _ w78 ⟨rfl, hb79⟩
  have O80 : Own Z0 W w78 [.blk g57 38 #[.int .i64 2, .int .i64 1, .slice none 0 0], .blk g42 24 #[.int .i64 1, .slice (some ⟨g33, 0, none⟩) 4 4], .blk g33 38 #[.int .i64 2, .int .i64 1, .slice none 0 0, .int .i64 4, .int .i64 0, .slice (some ⟨g6, 0, none⟩) 2 2, .int .i64 3, .int .i64 0, .slice (some ⟨g15, 0, none⟩) 1 1, .int .i64 3, .int .i64 0, .slice (some ⟨g24, 0, none⟩) 1 1], .blk g24 3 #[.int .i64 2], .blk g15 3 #[.int .i64 1], .blk g6 3 #[.int .i64 0, .int .i64 0]] := O76.below hb79
  refine ⟨_, rfl, (O80.re [1, 2, 3, 4, 5] rfl : Own Z0 W w78 [.blk g42 24 #[.int .i64 1, .slice (some ⟨g33, 0, none⟩) 4 4], .blk g33 38 #[.int .i64 2, .int .i64 1, .slice none 0 0, .int .i64 4, .int .i64 0, .slice (some ⟨g6, 0, none⟩) 2 2, .int .i64 3, .int .i64 0, .slice (some ⟨g15, 0, none⟩) 1 1, .int .i64 3, .int .i64 0, .slice (some ⟨g24, 0, none⟩) 1 1], .blk g24 3 #[.int .i64 2], .blk g15 3 #[.int .i64 1], .blk g6 3 #[.int .i64 0, .int .i64 0]]), ?_⟩
  refine wt1 (v := .bool true) rfl (fun ρ e W => ex_cmp (u := 4) (v := 4) (e _ _ rfl) (e _ _ rfl) (eql1 (by omega))) rfl rfl ?_
  refine wt1 (v := .bool true) rfl (fun ρ e W => ex_pick1 (e _ _ rfl) (e _ _ rfl)) rfl rfl ?_
  refine wt1 (v := .bool true) rfl (fun ρ e W => ex_move (e _ _ rfl)) rfl rfl ?_
  refine wt2_call (args := [.int .i64 0, .slice none 0 0]) rfl in_25 rfl rfl rfl ?_
  refine (circuit_ _ 0).mono ?_
  rintro _ w82 ⟨rfl, hb83⟩
  have O84 : Own Z0 W w82 [.blk g57 38 #[.int .i64 2, .int .i64 1, .slice none 0 0], .blk g42 24 #[.int .i64 1, .slice (some ⟨g33, 0, none⟩) 4 4], .blk g33 38 #[.int .i64 2, .int .i64 1, .slice none 0 0, .int .i64 4, .int .i64 0, .slice (some ⟨g6, 0, none⟩) 2 2, .int .i64 3, .int .i64 0, .slice (some ⟨g15, 0, none⟩) 1 1, .int .i64 3, .int .i64 0, .slice (some ⟨g24, 0, none⟩) 1 1], .blk g24 3 #[.int .i64 2], .blk g15 3 #[.int .i64 1], .blk g6 3 #[.int .i64 0, .int .i64 0]] := O80.below hb83
  refine ⟨_, rfl, (O84.re [1, 2, 3, 4, 5] rfl : Own Z0 W w82 [.blk g42 24 #[.int .i64 1, .slice (some ⟨g33, 0, none⟩) 4 4], .blk g33 38 #[.int .i64 2, .int .i64 1, .slice none 0 0, .int .i64 4, .int .i64 0, .slice (some ⟨g6, 0, none⟩) 2 2, .int .i64 3, .int .i64 0, .slice (some ⟨g15, 0, none⟩) 1 1, .int .i64 3, .int .i64 0, .slice (some ⟨g24, 0, none⟩) 1 1], .blk g24 3 #[.int .i64 2], .blk g15 3 #[.int .i64 1], .blk g6 3 #[.int .i64 0, .int .i64 0]]), ?_⟩
  refine wt2_call (args := [.agg #[.int .i64 0, .slice none 0 0]]) rfl in_22 rfl rfl rfl ?_
  have h88 := circ_check 0 _ _ _ _ (Nat.le_refl _) (gates_nil w82 w82.heap.size) (by decide)
  rw [show checkOf 0 [] = 1 from by kernel_rfl] at h88
  refine h88.mono ?_
  rintro _ w85 ⟨rfl, hb86⟩
  have O87 : Own Z0 W w85 [.blk g57 38 #[.int .i64 2, .int .i64 1, .slice none 0 0], .blk g42 24 #[.int .i64 1, .slice (some ⟨g33, 0, none⟩) 4 4], .blk g33 38 #[.int .i64 2, .int .i64 1, .slice none 0 0, .int .i64 4, .int .i64 0, .slice (some ⟨g6, 0, none⟩) 2 2, .int .i64 3, .int .i64 0, .slice (some ⟨g15, 0, none⟩) 1 1, .int .i64 3, .int .i64 0, .slice (some ⟨g24, 0, none⟩) 1 1], .blk g24 3 #[.int .i64 2], .blk g15 3 #[.int .i64 1], .blk g6 3 #[.int .i64 0, .int .i64 0]] := O84.below hb86
  refine ⟨_, rfl, (O87.re [1, 2, 3, 4, 5] rfl : Own Z0 W w85 [.blk g42 24 #[.int .i64 1, .slice (some ⟨g33, 0, none⟩) 4 4], .blk g33 38 #[.int .i64 2, .int .i64 1, .slice none 0 0, .int .i64 4, .int .i64 0, .slice (some ⟨g6, 0, none⟩) 2 2, .int .i64 3, .int .i64 0, .slice (some ⟨g15, 0, none⟩) 1 1, .int .i64 3, .int .i64 0, .slice (some ⟨g24, 0, none⟩) 1 1], .blk g24 3 #[.int .i64 2], .blk g15 3 #[.int .i64 1], .blk g6 3 #[.int .i64 0, .int .i64 0]]), ?_⟩
  refine wt1 (v := .bool true) rfl (fun ρ e W => ex_cmp (u := 1) (v := 1) (e _ _ rfl) (e _ _ rfl) (eql1 (by omega))) rfl rfl ?_
  refine wt1 (v := .bool true) rfl (fun ρ e W => ex_pick1 (e _ _ rfl) (e _ _ rfl)) rfl rfl ?_
  refine wt3 (v := .bool true) rfl (fun ρ e => ex_assign (e _ _ rfl)) rfl rfl ?_
  refine wt_nil ?_
  refine xw_next K52 ?_
  refine cw_ret ?_
  refine xw_ret (v := .bool true) (fun T hT => res1 rfl T _ (hT 0 _ rfl)) ?_
  exact ⟨rfl, O87.old⟩
end Go.Proofs.YtbemhgojfehnjaaDoor
namespace Go.Proofs.YtbemhgojfehnjaaDoor
open Go Go.RowKit
/-- What Light answers. -/
def lightOf (N : Int) (gs : List Gate) : Bool := decide (gs.length ≤ 5000) && gs.all (fun g => decide (g.inp.length ≤ 200)) && ((decide ((gs.length : Int) ≤ 60) && gs.all (fun g => decide (g.inp.length ≤ 12))) || checkOf N gs != 0)
theorem light_12 (n : Nat) : cmpB .leq (n : Int) 12 = some (decide (n ≤ 12)) := by
  simp only [cmpB, Option.some.injEq, decide_eq_decide]; omega
theorem light_long {N : Int} {gs : List Gate} (h : 5000 < gs.length) : lightOf N gs = false := by
  unfold lightOf
  rw [decide_eq_false (by omega)]
  rfl
theorem light_wide {N : Int} {gs : List Gate} {i : Nat} (hi : i < gs.length) (h : 200 < gs[i].inp.length) : lightOf N gs = false := by
  unfold lightOf
  have : gs.all (fun g => decide (g.inp.length ≤ 200)) = false := by
    rw [List.all_eq_false]
    exact ⟨gs[i], List.getElem_mem hi, by simp; omega⟩
  rw [this]
  simp
theorem light_end {N : Int} {gs : List Gate} (h1 : gs.length ≤ 5000) (h2 : ∀ g ∈ gs, g.inp.length ≤ 200) : lightOf N gs = ((decide ((gs.length : Int) ≤ 60) && gs.all (fun g => decide (g.inp.length ≤ 12))) || checkOf N gs != 0) := by
  unfold lightOf
  have : gs.all (fun g => decide (g.inp.length ≤ 200)) = true := by
    rw [List.all_eq_true]
    intro g hg
    simpa using h2 g hg
  rw [this, decide_eq_true h1]
  rfl
theorem sizeTo_bound {gs : List Gate} {B : Nat} (h : ∀ g ∈ gs, g.inp.length ≤ B) : ∀ k, k ≤ gs.length → sizeTo gs k ≤ k * B
  | 0, _ => by rw [sizeTo_zero]; omega
  | k + 1, hk => by
    rw [sizeTo_succ gs k (by omega)]
    have h1 := sizeTo_bound h k (by omega)
    have h2 := h gs[k] (List.getElem_mem _)
    rw [Nat.succ_mul]; omega
theorem light_size {N : Int} {gs : List Gate} (h1 : gs.length ≤ 5000) (h2 : ∀ g ∈ gs, g.inp.length ≤ 200) : sizeOf gs ≤ 4611686018427387904 := by
  have := sizeTo_bound h2 gs.length (Nat.le_refl _)
  unfold sizeOf
  have : gs.length * 200 ≤ 5000 * 200 := Nat.mul_le_mul_right _ h1
  omega
theorem light_true {N : Int} {gs : List Gate} (h : lightOf N gs = true) : gs.length ≤ 5000 ∧ ∀ g ∈ gs, g.inp.length ≤ 200 := by
  unfold lightOf at h
  simp only [Bool.and_eq_true, decide_eq_true_eq, List.all_eq_true] at h
  exact ⟨h.1.1, h.1.2⟩
theorem light_ {W : World} {V : Value} {N : Int} {gs : List Gate} (hV : GatesV W W.heap.size V gs) : Calls Tryd.prog 13 #[.agg #[.int .i64 N, V]] W fun e w' => e = .returned (.bool (lightOf N gs)) ∧ Below W.heap.size W w' := by
  have hm : maxLen = 9223372036854775807 := rfl
  obtain ⟨A, c, rfl, hAc, hcm, _⟩ := id hV
  have O0 : Own Z0 W W [] := Own.start W
  refine sx_enter (args := [.agg #[.int .i64 N, .slice A gs.length c]]) Tryd.func13 rfl rfl (by simp) ?_
  refine cw_seq (fun FK1 K1 => ?_)
  refine cw_region ?_
  obtain ⟨g2, w3, r4, O5, hg6, hs7⟩ := own_box O0 24 (.agg #[.int .i64 N, .slice A gs.length c]) rfl
  refine wl_val (v := .pointer (some ⟨g2, 0, none⟩)) (fun ρ e => r4 ρ _ _ _ _ _ _ (e _ _ rfl)) rfl rfl ?_
  refine wl_val (v := .bool false) (fun ρ e => ex_assign (e _ _ rfl)) rfl rfl ?_
  refine wl_nil ?_
  refine xw_next K1 ?_
  refine cw_seq (fun FK8 K8 => ?_)
  refine cw_seq (fun FK9 K9 => ?_)
  refine cw_region ?_
  refine wl_val (v := .pointer (some ⟨g2, 1, none⟩)) (fun ρ e => ex_field (q := 1) fi24_1 (e _ _ rfl) rfl) rfl rfl ?_
  refine wl_val (v := .slice A gs.length c) (fun ρ e => ex_load1 ty22 (e _ _ rfl) (O5.cell 0 1 rfl rfl)) rfl rfl ?_
  refine wl_val (v := .int .i64 ((gs.length : Nat) : Int)) (fun ρ e => ex_len el22 (e _ _ rfl)) rfl rfl ?_
  by_cases c10 : ((gs.length : Nat) : Int) > 5000
  · skip
    refine wl_val (v := .bool true) (fun ρ e => ex_cmp (u := ((gs.length : Nat) : Int)) (v := 5000) (e _ _ rfl) (e _ _ rfl) (gtr1 (by omega))) rfl rfl ?_
    refine wl_nil ?_
    refine xw_next K9 ?_
    refine cw_true rfl ?_
    refine cw_seq (fun FK11 K11 => ?_)
    refine cw_region ?_
    refine wl_val (v := .bool false) (fun ρ e => ex_assign (e _ _ rfl)) rfl rfl ?_
    refine wl_nil ?_
    refine xw_next K11 ?_
    refine cw_ret ?_
    refine xw_past (by intro h; cases h) ?_
    refine xw_ret (v := .bool false) (fun T hT => res1 rfl T _ (hT 2 _ rfl)) ?_
    exact ⟨by rw [light_long (by omega)], O5.old⟩
  · skip
    refine wl_val (v := .bool false) (fun ρ e => ex_cmp (u := ((gs.length : Nat) : Int)) (v := 5000) (e _ _ rfl) (e _ _ rfl) (gtr0 (by omega))) rfl rfl ?_
    refine wl_nil ?_
    refine xw_next K9 ?_
    refine cw_false rfl ?_
    refine cw_skip ?_
    refine xw_next K8 ?_
    refine cw_seq (fun FK12 K12 => ?_)
    refine cw_region ?_
    refine wl_val (v := .pointer (some ⟨g2, 1, none⟩)) (fun ρ e => ex_field (q := 1) fi24_1 (e _ _ rfl) rfl) rfl rfl ?_
    refine wl_val (v := .slice A gs.length c) (fun ρ e => ex_load1 ty22 (e _ _ rfl) (O5.cell 0 1 rfl rfl)) rfl rfl ?_
    refine wl_val (v := .int .i64 ((gs.length : Nat) : Int)) (fun ρ e => ex_len el22 (e _ _ rfl)) rfl rfl ?_
    refine wl_val (v := .bool (decide ((gs.length : Int) ≤ 60))) (fun ρ e => ex_cmp (u := ((gs.length : Nat) : Int)) (v := 60) (r := (decide ((gs.length : Int) ≤ 60))) (e _ _ rfl) (e _ _ rfl) rfl) rfl rfl ?_
    refine wl_val (v := .bool (decide ((gs.length : Int) ≤ 60))) (fun ρ e => ex_assign (e _ _ rfl)) rfl rfl ?_
    refine wl_nil ?_
    refine xw_next K12 ?_
    refine cw_seq (fun FK13 K13 => ?_)
    refine cw_seq (fun FK14 K14 => ?_)
    refine cw_region ?_
    refine wl_val (v := .pointer (some ⟨g2, 1, none⟩)) (fun ρ e => ex_field (q := 1) fi24_1 (e _ _ rfl) rfl) rfl rfl ?_
    refine wl_val (v := .slice A gs.length c) (fun ρ e => ex_load1 ty22 (e _ _ rfl) (O5.cell 0 1 rfl rfl)) rfl rfl ?_
    refine wl_val (v := .int .i64 ((gs.length : Nat) : Int)) (fun ρ e => ex_len el22 (e _ _ rfl)) rfl rfl ?_
    refine wl_val (v := .int .i64 0) (fun ρ e => ex_move (e _ _ rfl)) rfl rfl ?_
    refine wl_nil ?_
    refine xw_next K14 ?_
    refine cw_block ?_
    refine cw_loop (ι := Nat × Bool) (fun q => [(1, .pointer (some ⟨g2, 0, none⟩)), (2, .bool false), (14, .slice A gs.length c), (15, .int .i64 ((gs.length : Nat) : Int)), (3, .bool q.2), (16, .int .i64 (q.1 : Int))]) (fun q X => (q.1 ≤ gs.length) ∧ (q.2 = (decide ((gs.length : Int) ≤ 60) && (gs.take q.1).all (fun g => decide (g.inp.length ≤ 12)))) ∧ (∀ g ∈ gs.take q.1, g.inp.length ≤ 200) ∧ Own Z0 W X [.blk g2 24 #[.int .i64 N, .slice A gs.length c]]) (fun q => gs.length - q.1) (0, (decide ((gs.length : Int) ≤ 60))) ⟨Nat.zero_le _, (by simp), (by simp), O5⟩ ⟨rfl, rfl, rfl, rfl, rfl, rfl, trivial⟩ (fun q w15 hJ F16 K17 => ?_)
    obtain ⟨i, sm⟩ := q
    obtain ⟨hi0, hsm, h200, O18⟩ := hJ
    dsimp only at hi0 hsm h200 O18 ⊢
    by_cases hk : i < gs.length
    · obtain ⟨bG, oG, AI, cI, hbA, hbB, k0, k1, k2, hIV, hIc, hIm⟩ := hV.at_ (Below.refl _ _) hk
      have htk : gs.take (i + 1) = gs.take i ++ [gs[i]] := (List.take_append_getElem hk).symm
      cases sm
      · skip
        refine cw_seq (fun FK19 K19 => ?_)
        refine cw_region ?_
        refine wl_val (v := .bool true) (fun ρ e => ex_cmp (u := (i : Int)) (v := ((gs.length : Nat) : Int)) (e _ _ rfl) (e _ _ rfl) (lss1 (by omega))) rfl rfl ?_
        refine wl_nil ?_
        refine xw_next K19 ?_
        refine cw_seq (fun FK20 K20 => ?_)
        refine cw_true rfl ?_
        refine cw_skip ?_
        refine xw_next K20 ?_
        refine cw_seq (fun FK21 K21 => ?_)
        refine cw_block ?_
        refine cw_seq (fun FK22 K22 => ?_)
        refine cw_region ?_
        refine wl_val (v := .int .i64 (i : Int)) (fun ρ e => ex_move (e _ _ rfl)) rfl rfl ?_
        refine wl_val (v := .int .i64 (i : Int)) (fun ρ e => ex_assign (e _ _ rfl)) rfl rfl ?_
        refine wl_nil ?_
        refine xw_next K22 ?_
        refine cw_seq (fun FK23 K23 => ?_)
        refine cw_seq (fun FK24 K24 => ?_)
        refine cw_region ?_
        refine wl_val (v := .pointer (some ⟨g2, 1, none⟩)) (fun ρ e => ex_field (q := 1) fi24_1 (e _ _ rfl) rfl) rfl rfl ?_
        refine wl_val (v := .slice A gs.length c) (fun ρ e => ex_load1 ty22 (e _ _ rfl) (O18.cell 0 1 rfl rfl)) rfl rfl ?_
        refine wl_val (v := .int .i64 (i : Int)) (fun ρ e => ex_move (e _ _ rfl)) rfl rfl ?_
        refine wl_val (v := .pointer (some ⟨bG, oG + i * 3, none⟩)) (fun ρ e => ex_idx (q := oG + i * 3) (g := bG) (o := oG) (i := i) el22 ((e _ _ rfl).trans (congrArg (fun z => Value.slice z gs.length c) hbA)) (e _ _ rfl) hk (by omega)) rfl rfl ?_
        refine wl_val (v := .pointer (some ⟨bG, oG + i * 3 + 2, none⟩)) (fun ρ e => ex_field (q := oG + i * 3 + 2) fi38_2 (e _ _ rfl) rfl) rfl rfl ?_
        refine wl_val (v := .slice AI (gs[i].inp.length) cI) (fun ρ e => ex_load1 ty36 (e _ _ rfl) ((O18.old.cell (p := ⟨bG, oG + i * 3 + 2, none⟩) hbB).trans k2)) rfl rfl ?_
        refine wl_val (v := .int .i64 ((gs[i].inp.length : Nat) : Int)) (fun ρ e => ex_len el36 (e _ _ rfl)) rfl rfl ?_
        by_cases c25 : ((gs[i].inp.length : Nat) : Int) > 200
        · skip
          refine wl_val (v := .bool true) (fun ρ e => ex_cmp (u := ((gs[i].inp.length : Nat) : Int)) (v := 200) (e _ _ rfl) (e _ _ rfl) (gtr1 (by omega))) rfl rfl ?_
          refine wl_nil ?_
          refine xw_next K24 ?_
          refine cw_true rfl ?_
          refine cw_seq (fun FK26 K26 => ?_)
          refine cw_region ?_
          refine wl_val (v := .bool false) (fun ρ e => ex_assign (e _ _ rfl)) rfl rfl ?_
          refine wl_nil ?_
          refine xw_next K26 ?_
          refine cw_ret ?_
          refine xw_past (by intro h; cases h) ?_
          refine xw_blockret ?_
          refine xw_past (by intro h; cases h) ?_
          refine xw_past (by intro h; cases h) ?_
          refine xw_blockret ?_
          refine xw_past (by intro h; cases h) ?_
          refine xw_ret (v := .bool false) (fun T hT => res1 rfl T _ (hT 2 _ rfl)) ?_
          exact ⟨by rw [light_wide hk (by omega)], O18.old⟩
        · skip
          refine wl_val (v := .bool false) (fun ρ e => ex_cmp (u := ((gs[i].inp.length : Nat) : Int)) (v := 200) (e _ _ rfl) (e _ _ rfl) (gtr0 (by omega))) rfl rfl ?_
          refine wl_nil ?_
          refine xw_next K24 ?_
          refine cw_false rfl ?_
          refine cw_skip ?_
          refine xw_next K23 ?_
          refine cw_region ?_
          refine wl_val (v := .bool false) (fun ρ e => ex_move (e _ _ rfl)) rfl rfl ?_
          refine wl_val (v := .bool false) (fun ρ e => ex_move (e _ _ rfl)) rfl rfl ?_
          refine wl_skip rfl rfl ?_
          refine wl_skip rfl rfl ?_
          refine wl_skip rfl rfl ?_
          refine wl_skip rfl rfl ?_
          refine wl_skip rfl rfl ?_
          refine wl_skip rfl rfl ?_
          refine wl_skip rfl rfl ?_
          refine wl_skip rfl rfl ?_
          refine wl_val (v := .bool false) (fun ρ e => ex_pick0 (e _ _ rfl) (e _ _ rfl)) rfl rfl ?_
          refine wl_val (v := .bool false) (fun ρ e => ex_assign (e _ _ rfl)) rfl rfl ?_
          refine wl_nil ?_
          refine xw_block ?_
          refine xw_next K21 ?_
          refine cw_region ?_
          refine wl_val (v := .int .i64 ((i + 1 : Nat) : Int)) (fun ρ e => ex_arith (k := .i64) (u := (i : Int)) (v := 1) (e _ _ rfl) (e _ _ rfl) (congrArg some ((congrArg _ (by omega)).trans (wrap_in (u := ((i + 1 : Nat) : Int)) (by omega) (by omega))))) rfl rfl ?_
          refine wl_val (v := .int .i64 ((i + 1 : Nat) : Int)) (fun ρ e => ex_move (e _ _ rfl)) rfl rfl ?_
          refine wl_nil ?_
          refine xw_round K17 (i + 1, false) (by show gs.length - (i + 1) < gs.length - i; omega) ⟨(by show i + 1 ≤ _; omega), (by show false = _; rw [htk, List.all_append]; simp only [List.all_cons, List.all_nil, Bool.and_true]; rw [← Bool.and_assoc, ← hsm]; rfl), (by rw [htk]; intro g hg; rcases List.mem_append.1 hg with h | h; exact h200 g h; rw [List.mem_singleton.1 h]; omega), O18⟩ ⟨rfl, rfl, rfl, rfl, rfl, rfl, trivial⟩
      · skip
        refine cw_seq (fun FK27 K27 => ?_)
        refine cw_region ?_
        refine wl_val (v := .bool true) (fun ρ e => ex_cmp (u := (i : Int)) (v := ((gs.length : Nat) : Int)) (e _ _ rfl) (e _ _ rfl) (lss1 (by omega))) rfl rfl ?_
        refine wl_nil ?_
        refine xw_next K27 ?_
        refine cw_seq (fun FK28 K28 => ?_)
        refine cw_true rfl ?_
        refine cw_skip ?_
        refine xw_next K28 ?_
        refine cw_seq (fun FK29 K29 => ?_)
        refine cw_block ?_
        refine cw_seq (fun FK30 K30 => ?_)
        refine cw_region ?_
        refine wl_val (v := .int .i64 (i : Int)) (fun ρ e => ex_move (e _ _ rfl)) rfl rfl ?_
        refine wl_val (v := .int .i64 (i : Int)) (fun ρ e => ex_assign (e _ _ rfl)) rfl rfl ?_
        refine wl_nil ?_
        refine xw_next K30 ?_
        refine cw_seq (fun FK31 K31 => ?_)
        refine cw_seq (fun FK32 K32 => ?_)
        refine cw_region ?_
        refine wl_val (v := .pointer (some ⟨g2, 1, none⟩)) (fun ρ e => ex_field (q := 1) fi24_1 (e _ _ rfl) rfl) rfl rfl ?_
        refine wl_val (v := .slice A gs.length c) (fun ρ e => ex_load1 ty22 (e _ _ rfl) (O18.cell 0 1 rfl rfl)) rfl rfl ?_
        refine wl_val (v := .int .i64 (i : Int)) (fun ρ e => ex_move (e _ _ rfl)) rfl rfl ?_
        refine wl_val (v := .pointer (some ⟨bG, oG + i * 3, none⟩)) (fun ρ e => ex_idx (q := oG + i * 3) (g := bG) (o := oG) (i := i) el22 ((e _ _ rfl).trans (congrArg (fun z => Value.slice z gs.length c) hbA)) (e _ _ rfl) hk (by omega)) rfl rfl ?_
        refine wl_val (v := .pointer (some ⟨bG, oG + i * 3 + 2, none⟩)) (fun ρ e => ex_field (q := oG + i * 3 + 2) fi38_2 (e _ _ rfl) rfl) rfl rfl ?_
        refine wl_val (v := .slice AI (gs[i].inp.length) cI) (fun ρ e => ex_load1 ty36 (e _ _ rfl) ((O18.old.cell (p := ⟨bG, oG + i * 3 + 2, none⟩) hbB).trans k2)) rfl rfl ?_
        refine wl_val (v := .int .i64 ((gs[i].inp.length : Nat) : Int)) (fun ρ e => ex_len el36 (e _ _ rfl)) rfl rfl ?_
        by_cases c33 : ((gs[i].inp.length : Nat) : Int) > 200
        · skip
          refine wl_val (v := .bool true) (fun ρ e => ex_cmp (u := ((gs[i].inp.length : Nat) : Int)) (v := 200) (e _ _ rfl) (e _ _ rfl) (gtr1 (by omega))) rfl rfl ?_
          refine wl_nil ?_
          refine xw_next K32 ?_
          refine cw_true rfl ?_
          refine cw_seq (fun FK34 K34 => ?_)
          refine cw_region ?_
          refine wl_val (v := .bool false) (fun ρ e => ex_assign (e _ _ rfl)) rfl rfl ?_
          refine wl_nil ?_
          refine xw_next K34 ?_
          refine cw_ret ?_
          refine xw_past (by intro h; cases h) ?_
          refine xw_blockret ?_
          refine xw_past (by intro h; cases h) ?_
          refine xw_past (by intro h; cases h) ?_
          refine xw_blockret ?_
          refine xw_past (by intro h; cases h) ?_
          refine xw_ret (v := .bool false) (fun T hT => res1 rfl T _ (hT 2 _ rfl)) ?_
          exact ⟨by rw [light_wide hk (by omega)], O18.old⟩
        · skip
          refine wl_val (v := .bool false) (fun ρ e => ex_cmp (u := ((gs[i].inp.length : Nat) : Int)) (v := 200) (e _ _ rfl) (e _ _ rfl) (gtr0 (by omega))) rfl rfl ?_
          refine wl_nil ?_
          refine xw_next K32 ?_
          refine cw_false rfl ?_
          refine cw_skip ?_
          refine xw_next K31 ?_
          refine cw_region ?_
          refine wl_val (v := .bool true) (fun ρ e => ex_move (e _ _ rfl)) rfl rfl ?_
          refine wl_val (v := .bool true) (fun ρ e => ex_move (e _ _ rfl)) rfl rfl ?_
          refine wl_val (v := .pointer (some ⟨g2, 1, none⟩)) (fun ρ e => ex_field (q := 1) fi24_1 (e _ _ rfl) rfl) rfl rfl ?_
          refine wl_val (v := .slice A gs.length c) (fun ρ e => ex_load1 ty22 (e _ _ rfl) (O18.cell 0 1 rfl rfl)) rfl rfl ?_
          refine wl_val (v := .int .i64 (i : Int)) (fun ρ e => ex_move (e _ _ rfl)) rfl rfl ?_
          refine wl_val (v := .pointer (some ⟨bG, oG + i * 3, none⟩)) (fun ρ e => ex_idx (q := oG + i * 3) (g := bG) (o := oG) (i := i) el22 ((e _ _ rfl).trans (congrArg (fun z => Value.slice z gs.length c) hbA)) (e _ _ rfl) hk (by omega)) rfl rfl ?_
          refine wl_val (v := .pointer (some ⟨bG, oG + i * 3 + 2, none⟩)) (fun ρ e => ex_field (q := oG + i * 3 + 2) fi38_2 (e _ _ rfl) rfl) rfl rfl ?_
          refine wl_val (v := .slice AI (gs[i].inp.length) cI) (fun ρ e => ex_load1 ty36 (e _ _ rfl) ((O18.old.cell (p := ⟨bG, oG + i * 3 + 2, none⟩) hbB).trans k2)) rfl rfl ?_
          refine wl_val (v := .int .i64 ((gs[i].inp.length : Nat) : Int)) (fun ρ e => ex_len el36 (e _ _ rfl)) rfl rfl ?_
          refine wl_val (v := .bool (decide (gs[i].inp.length ≤ 12))) (fun ρ e => ex_cmp (u := ((gs[i].inp.length : Nat) : Int)) (v := 12) (r := (decide (gs[i].inp.length ≤ 12))) (e _ _ rfl) (e _ _ rfl) (light_12 _)) rfl rfl ?_
          refine wl_val (v := .bool (decide (gs[i].inp.length ≤ 12))) (fun ρ e => ex_pick1 (e _ _ rfl) (e _ _ rfl)) rfl rfl ?_
          refine wl_val (v := .bool (decide (gs[i].inp.length ≤ 12))) (fun ρ e => ex_assign (e _ _ rfl)) rfl rfl ?_
          refine wl_nil ?_
          refine xw_block ?_
          refine xw_next K29 ?_
          refine cw_region ?_
          refine wl_val (v := .int .i64 ((i + 1 : Nat) : Int)) (fun ρ e => ex_arith (k := .i64) (u := (i : Int)) (v := 1) (e _ _ rfl) (e _ _ rfl) (congrArg some ((congrArg _ (by omega)).trans (wrap_in (u := ((i + 1 : Nat) : Int)) (by omega) (by omega))))) rfl rfl ?_
          refine wl_val (v := .int .i64 ((i + 1 : Nat) : Int)) (fun ρ e => ex_move (e _ _ rfl)) rfl rfl ?_
          refine wl_nil ?_
          refine xw_round K17 (i + 1, (decide (gs[i].inp.length ≤ 12))) (by show gs.length - (i + 1) < gs.length - i; omega) ⟨(by show i + 1 ≤ _; omega), (by show (decide (gs[i].inp.length ≤ 12)) = _; rw [htk, List.all_append]; simp only [List.all_cons, List.all_nil, Bool.and_true]; rw [← Bool.and_assoc, ← hsm]; rfl), (by rw [htk]; intro g hg; rcases List.mem_append.1 hg with h | h; exact h200 g h; rw [List.mem_singleton.1 h]; omega), O18⟩ ⟨rfl, rfl, rfl, rfl, rfl, rfl, trivial⟩
    · have hie : i = gs.length := by omega
      rw [hie, List.take_length] at hsm h200
      have hend := light_end (N := N) (by omega) h200
      rw [← hsm] at hend
      cases sm
      · skip
        refine cw_seq (fun FK35 K35 => ?_)
        refine cw_region ?_
        refine wl_val (v := .bool false) (fun ρ e => ex_cmp (u := (i : Int)) (v := ((gs.length : Nat) : Int)) (e _ _ rfl) (e _ _ rfl) (lss0 (by omega))) rfl rfl ?_
        refine wl_nil ?_
        refine xw_next K35 ?_
        refine cw_seq (fun FK36 K36 => ?_)
        refine cw_false rfl ?_
        refine cw_exit ?_
        refine xw_past (by intro h; cases h) ?_
        refine xw_past (by intro h; cases h) ?_
        refine xw_here ?_
        refine xw_next K13 ?_
        refine cw_seq (fun FK37 K37 => ?_)
        refine cw_region ?_
        refine wl_val (v := .bool false) (fun ρ e => ex_move (e _ _ rfl)) rfl rfl ?_
        refine wl_val (v := .bool false) (fun ρ e => ex_move (e _ _ rfl)) rfl rfl ?_
        refine wl_val (v := .agg #[.int .i64 N, .slice A gs.length c]) (fun ρ e => ex_loadN (vs := [.int .i64 N, .slice A gs.length c]) ty24 (e _ _ rfl) rfl (O18.cells 0 0 rfl rfl)) rfl rfl ?_
        refine wl_call (args := [.agg #[.int .i64 N, .slice A gs.length c]]) in_29 rfl rfl rfl ?_
        refine (ref07_check N _ gs _ W.heap.size O18.old.size (hV.below O18.old) (light_size (N := N) (by omega) h200)).mono ?_
        rintro _ w38 ⟨rfl, hb39⟩
        have O40 : Own Z0 W w38 [.blk g2 24 #[.int .i64 N, .slice A gs.length c]] := O18.below hb39
        refine ⟨_, rfl, ?_⟩
        by_cases c41 : (checkOf N gs) ≠ 0
        · skip
          refine wl_val (v := .bool true) (fun ρ e => ex_cmp (u := (checkOf N gs)) (v := 0) (e _ _ rfl) (e _ _ rfl) (neq1 (by omega))) rfl rfl ?_
          refine wl_val (v := .bool true) (fun ρ e => ex_pick0 (e _ _ rfl) (e _ _ rfl)) rfl rfl ?_
          refine wl_val (v := .bool true) (fun ρ e => ex_assign (e _ _ rfl)) rfl rfl ?_
          refine wl_nil ?_
          refine xw_next K37 ?_
          refine cw_ret ?_
          refine xw_ret (v := .bool true) (fun T hT => res1 rfl T _ (hT 2 _ rfl)) ?_
          have hz : (checkOf N gs != 0) = true := bne_iff_ne.2 c41
          exact ⟨by rw [hend, hz]; rfl, O40.old⟩
        · skip
          refine wl_val (v := .bool false) (fun ρ e => ex_cmp (u := (checkOf N gs)) (v := 0) (e _ _ rfl) (e _ _ rfl) (neq0 (by omega))) rfl rfl ?_
          refine wl_val (v := .bool false) (fun ρ e => ex_pick0 (e _ _ rfl) (e _ _ rfl)) rfl rfl ?_
          refine wl_val (v := .bool false) (fun ρ e => ex_assign (e _ _ rfl)) rfl rfl ?_
          refine wl_nil ?_
          refine xw_next K37 ?_
          refine cw_ret ?_
          refine xw_ret (v := .bool false) (fun T hT => res1 rfl T _ (hT 2 _ rfl)) ?_
          have hz : (checkOf N gs != 0) = false := by rw [bne_eq_false_iff_eq]; omega
          exact ⟨by rw [hend, hz]; rfl, O40.old⟩
      · skip
        refine cw_seq (fun FK42 K42 => ?_)
        refine cw_region ?_
        refine wl_val (v := .bool false) (fun ρ e => ex_cmp (u := (i : Int)) (v := ((gs.length : Nat) : Int)) (e _ _ rfl) (e _ _ rfl) (lss0 (by omega))) rfl rfl ?_
        refine wl_nil ?_
        refine xw_next K42 ?_
        refine cw_seq (fun FK43 K43 => ?_)
        refine cw_false rfl ?_
        refine cw_exit ?_
        refine xw_past (by intro h; cases h) ?_
        refine xw_past (by intro h; cases h) ?_
        refine xw_here ?_
        refine xw_next K13 ?_
        refine cw_seq (fun FK44 K44 => ?_)
        refine cw_region ?_
        refine wl_val (v := .bool true) (fun ρ e => ex_move (e _ _ rfl)) rfl rfl ?_
        refine wl_val (v := .bool true) (fun ρ e => ex_move (e _ _ rfl)) rfl rfl ?_
        refine wl_skip rfl rfl ?_
        refine wl_skip rfl rfl ?_
        refine wl_skip rfl rfl ?_
        refine wl_val (v := .bool true) (fun ρ e => ex_pick1 (e _ _ rfl) (e _ _ rfl)) rfl rfl ?_
        refine wl_val (v := .bool true) (fun ρ e => ex_assign (e _ _ rfl)) rfl rfl ?_
        refine wl_nil ?_
        refine xw_next K44 ?_
        refine cw_ret ?_
        refine xw_ret (v := .bool true) (fun T hT => res1 rfl T _ (hT 2 _ rfl)) ?_
        exact ⟨by rw [hend]; rfl, O18.old⟩
end Go.Proofs.YtbemhgojfehnjaaDoor
namespace Go.Proofs.YtbemhgojfehnjaaDoor
open Go Go.RowKit
theorem Ins.append {D : Nat → Prop} {w : World} {gs hs : List Gate} {vs us : List Value} (h1 : Ins D gs vs w) (h2 : Ins D hs us w) : Ins D (gs ++ hs) (vs ++ us) w := by
  refine ⟨by rw [List.length_append, List.length_append, h1.1, h2.1], fun i g v q1 q2 => ?_⟩
  by_cases hi : i < gs.length
  · rw [List.getElem?_append_left hi] at q1
    rw [List.getElem?_append_left (by rw [← h1.1]; exact hi)] at q2
    exact h1.2 i g v q1 q2
  · rw [List.getElem?_append_right (by omega)] at q1
    rw [List.getElem?_append_right (by rw [← h1.1]; omega), ← h1.1] at q2
    exact h2.2 _ g v q1 q2
end Go.Proofs.YtbemhgojfehnjaaDoor
namespace Go.Proofs.YtbemhgojfehnjaaDoor
open Go
def extra (n : Int) : Nat → List Gate
  | 0 => [⟨3, 0, [n - 1]⟩, ⟨3, 0, [n]⟩]
  | 1 => [⟨4, 0, [n - 1, n - 1]⟩]
  | 2 => [⟨5, 0, [n - 1]⟩]
  | 3 => [⟨6, 0, [n - 1, n - 1, n - 1]⟩]
  | 4 => [⟨0, 0, []⟩, ⟨5, 0, [n, n - 1, n]⟩]
  | 5 => [⟨1, 0, []⟩, ⟨7, 0, [n, n - 1]⟩]
  | _ => [⟨0, 0, []⟩, ⟨8, 0, [n, n, n - 1]⟩]
end Go.Proofs.YtbemhgojfehnjaaDoor
namespace Go.Proofs.YtbemhgojfehnjaaDoor
open Go
theorem NfG.map {L M : List Gate} {g : Gate} (f : Int → Int) (h : NfG L g) (hk : ∀ x ∈ g.inp, kindAt M (f x) = kindAt L x) (hi : ∀ x ∈ g.inp, ∀ y ∈ g.inp, f x = f y → x = y) : NfG M ⟨g.kind, g.lit, g.inp.map f⟩ := by
  have nd : ∀ l : List Int, (∀ x ∈ l, x ∈ g.inp) → l.Nodup → (l.map f).Nodup := by
    intro l
    induction l with
    | nil => intro _ _; simp
    | cons x l ih =>
      intro h1 h2
      rw [List.nodup_cons] at h2
      rw [List.map_cons, List.nodup_cons]
      refine ⟨fun hm => ?_, ih (fun y hy => h1 y (by simp [hy])) h2.2⟩
      obtain ⟨y, hy, e⟩ := List.mem_map.1 hm
      have := hi y (h1 y (by simp [hy])) x (h1 x (by simp)) e
      rw [this] at hy
      exact h2.1 hy
  refine ⟨fun e a ea => ?_, fun e => ?_, fun e => ?_, fun e a b ea => ?_, fun e a b c ea => ?_⟩
  · simp only at ea e
    match hg : g.inp, ea with
    | [x], ea =>
      injection ea with ea
      rw [← ea, hk x (by rw [hg]; simp)]
      exact h.k3 e x hg
  · obtain ⟨a, b, c⟩ := h.k45 e
    refine ⟨by simpa using a, nd _ (fun _ h => h) b, fun y hy => ?_⟩
    obtain ⟨x, hx, rfl⟩ := List.mem_map.1 hy
    unfold livK
    rw [hk x hx]
    exact c x hx
  · obtain ⟨l, t, e1, e2, e3, e4, e5⟩ := h.k6 e
    have hl : ∀ x ∈ l, x ∈ g.inp := fun x hx => by rw [e1]; simp [hx]
    refine ⟨l.map f, t.map f, by show g.inp.map f = _; rw [e1, List.map_append], by simpa using e2, nd l hl e3, fun y hy => ?_, ?_⟩
    · obtain ⟨x, hx, rfl⟩ := List.mem_map.1 hy
      unfold livK
      rw [hk x (hl x hx)]
      exact e4 x hx
    · rcases e5 with rfl | ⟨y, rfl, hy⟩
      · exact .inl rfl
      · exact .inr ⟨f y, rfl, by rw [hk y (by rw [e1]; simp)]; exact hy⟩
  · simp only at ea e
    match hg : g.inp, ea with
    | [x, y], ea =>
      injection ea with e1 e2
      injection e2 with e2
      obtain ⟨p, q, r⟩ := h.k7 e x y hg
      subst e1 e2
      unfold livK
      rw [hk x (by rw [hg]; simp), hk y (by rw [hg]; simp)]
      exact ⟨fun e => p (hi x (by rw [hg]; simp) y (by rw [hg]; simp) e), q, r⟩
  · simp only at ea e
    match hg : g.inp, ea with
    | [x, y, z], ea =>
      injection ea with e1 e2
      injection e2 with e2 e3
      injection e3 with e3
      obtain ⟨p, q, r⟩ := h.k8 e x y z hg
      subst e1 e2 e3
      unfold livK
      rw [hk x (by rw [hg]; simp), hk y (by rw [hg]; simp), hk z (by rw [hg]; simp)]
      exact ⟨p, fun e => q (hi y (by rw [hg]; simp) z (by rw [hg]; simp) e), r⟩
/-- Places, once more. -/
structure PJ (L : List Gate) (use : List Bool) (n i : Nat) (out : List Gate) (place : List Int) : Prop where
  len : place.length = n
  get : ∀ j (hj : j < L.length), j < i → use.getD j false = true → 0 ≤ place.getD j 0 ∧ out[(place.getD j 0).toNat]? = some ⟨L[j].kind, L[j].lit, L[j].inp.map fun k => place.getD k.toNat 0⟩
  inj : ∀ j k, j < i → k < i → use.getD j false = true → use.getD k false = true → place.getD j 0 = place.getD k 0 → j = k
  sur : ∀ p, p < out.length → ∃ j, j < i ∧ use.getD j false = true ∧ place.getD j 0 = (p : Int)
  nf : NFL out
  nd : ND out
theorem map_inj {f : Int → Int} : ∀ {a b : List Int}, (∀ x ∈ a, ∀ y ∈ b, f x = f y → x = y) → a.map f = b.map f → a = b
  | [], [], _, _ => rfl
  | [], _ :: _, _, h => by cases h
  | _ :: _, [], _, h => by cases h
  | x :: a, y :: b, hi, h => by
    injection h with h1 h2
    rw [hi x (by simp) y (by simp) h1, map_inj (fun x hx y hy => hi x (by simp [hx]) y (by simp [hy])) h2]
theorem PJ.one {N : Int} {B : Nat} {L : List Gate} (hw : wfL N B L) (hd : ND L) (hn : NFL L) {use : List Bool} {n i : Nat} {out : List Gate} {place : List Int} (h : PJ L use n i out place) (hi : i < L.length) (hin : i < n)
    (hc : ∀ i (hi : i < L.length), i < n → use.getD i false = true → ∀ x ∈ L[i].inp, use.getD x.toNat false = true) :
    if use.getD i false = true then PJ L use n (i + 1) (out ++ [⟨L[i].kind, L[i].lit, L[i].inp.map fun k => place.getD k.toNat 0⟩]) (place.set i (out.length : Int)) else PJ L use n (i + 1) out place := by
  by_cases hu : use.getD i false = true
  · rw [if_pos hu]
    have p3 : ∀ j (hj : j < L.length), ∀ x ∈ L[j].inp, 0 ≤ x ∧ x < (j : Int) := fun j hj => (good_parts (hw j L[j] (List.getElem?_eq_getElem hj)).1).2.2
    have hset : ∀ j, (place.set i (out.length : Int)).getD j 0 = if i = j then (out.length : Int) else place.getD j 0 := fun j => getD_setI _ _ _ _ (by rw [h.len]; exact hin)
    have hmap : ∀ j (hj : j < L.length), j ≤ i → (L[j].inp.map fun k => (place.set i (out.length : Int)).getD k.toNat 0) = L[j].inp.map fun k => place.getD k.toNat 0 := by
      intro j hj hji
      refine List.map_congr_left (fun x hx => ?_)
      have := p3 j hj x hx
      rw [hset, if_neg (by omega)]
    have hlt : ∀ j (hj : j < L.length), j < i → use.getD j false = true → place.getD j 0 < (out.length : Int) := by
      intro j hj hji hju
      obtain ⟨a, b⟩ := h.get j hj hji hju
      have := (List.getElem?_eq_some_iff.1 b).1
      omega
    have hkind : ∀ j (hj : j < L.length), j < i → use.getD j false = true → kindAt out (place.getD j 0) = L[j].kind := by
      intro j hj hji hju
      obtain ⟨a, b⟩ := h.get j hj hji hju
      exact (kind_get a b).1
    have hinp : ∀ x ∈ L[i].inp, ∃ hj : x.toNat < L.length, x.toNat < i ∧ use.getD x.toNat false = true ∧ kindAt L x = L[x.toNat].kind := by
      intro x hx
      have := p3 i hi x hx
      have hj : x.toNat < L.length := by omega
      refine ⟨hj, by omega, hc i hi hin hu x hx, ?_⟩
      unfold kindAt gateAt
      rw [List.getD_eq_getElem?_getD, List.getElem?_eq_getElem hj]; rfl
    have hinj : ∀ x ∈ L[i].inp, ∀ y ∈ L[i].inp, place.getD x.toNat 0 = place.getD y.toNat 0 → x = y := by
      intro x hx y hy e
      obtain ⟨_, x1, x2, _⟩ := hinp x hx
      obtain ⟨_, y1, y2, _⟩ := hinp y hy
      have := h.inj _ _ x1 y1 x2 y2 e
      have := p3 i hi x hx
      have := p3 i hi y hy
      omega
    obtain ⟨g', hg'⟩ : ∃ g' : Gate, g' = ⟨L[i].kind, L[i].lit, L[i].inp.map fun k => place.getD k.toNat 0⟩ := ⟨_, rfl⟩
    have hnew : g' ∉ out := by
      intro hm
      obtain ⟨p, hp⟩ := List.mem_iff_getElem?.1 hm
      have hpl := (List.getElem?_eq_some_iff.1 hp).1
      obtain ⟨j, hji, hju, hjp⟩ := h.sur p hpl
      have hj : j < L.length := by omega
      obtain ⟨_, b⟩ := h.get j hj hji hju
      rw [hjp, Int.toNat_natCast, hp, hg'] at b
      injection b with b
      injection b with b1 b2 b3
      have e3 : L[i].inp = L[j].inp := map_inj (f := fun k => place.getD k.toNat 0) (fun x hx y hy e => by
        obtain ⟨_, x1, x2, _⟩ := hinp x hx
        have hy2 := p3 j hj y hy
        have := h.inj _ _ x1 (show y.toNat < i by omega) x2 (hc j hj (by omega) hju y hy) e
        have := p3 i hi x hx
        omega) b3
      have : L[i] = L[j] := by
        cases h1 : L[i]
        cases h2 : L[j]
        rw [h1, h2] at b1 b2 e3
        simp only at b1 b2 e3
        rw [b1, b2, e3]
      have := hd i j L[i] (List.getElem?_eq_getElem hi) (by rw [this]; exact List.getElem?_eq_getElem hj)
      omega
    have hnf : NfG out g' := by
      rw [hg']
      refine (hn i L[i] (List.getElem?_eq_getElem hi)).map (fun k => place.getD k.toNat 0) (fun x hx => ?_) hinj
      obtain ⟨hj, x1, x2, x3⟩ := hinp x hx
      rw [hkind x.toNat hj x1 x2, x3]
    have hg'in : ∀ x ∈ g'.inp, inR out x := by
      intro y hy
      rw [hg'] at hy
      obtain ⟨x, hx, rfl⟩ := List.mem_map.1 hy
      obtain ⟨hj, x1, x2, _⟩ := hinp x hx
      exact ⟨(h.get _ hj x1 x2).1, hlt _ hj x1 x2⟩
    have hold : ∀ (p : Nat) (g : Gate), out[p]? = some g → ∀ x ∈ g.inp, inR out x := by
      intro p g hp x hx
      have hpl := (List.getElem?_eq_some_iff.1 hp).1
      obtain ⟨j, hji, hju, hjp⟩ := h.sur p hpl
      have hj : j < L.length := by omega
      obtain ⟨_, b⟩ := h.get j hj hji hju
      rw [hjp, Int.toNat_natCast, hp] at b
      injection b with b
      rw [b] at hx
      obtain ⟨y, hy, rfl⟩ := List.mem_map.1 hx
      have hy2 := p3 j hj y hy
      have hyj : y.toNat < L.length := by omega
      exact ⟨(h.get _ hyj (by omega) (hc j hj (by omega) hju y hy)).1, hlt _ hyj (by omega) (hc j hj (by omega) hju y hy)⟩
    rw [← hg']
    refine ⟨by simp [h.len], fun j hj hji hju => ?_, fun j k hji hki hju hku e => ?_, fun p hp => ?_, fun p g hp => ?_, h.nd.snoc hnew⟩
    · rw [hset, hmap j hj (by omega)]
      split
      · rename_i e; subst e
        refine ⟨by omega, ?_⟩
        rw [Int.toNat_natCast, hg']; simp
      · obtain ⟨a, b⟩ := h.get j hj (by omega) hju
        exact ⟨a, by rw [List.getElem?_append_left (List.getElem?_eq_some_iff.1 b).1]; exact b⟩
    · rw [hset, hset] at e
      split at e
      · rename_i e1
        split at e
        · omega
        · have := hlt k (by omega) (by omega) hku; omega
      · split at e
        · have := hlt j (by omega) (by omega) hju; omega
        · exact h.inj j k (by omega) (by omega) hju hku e
    · rw [List.length_append, List.length_singleton] at hp
      by_cases e : p < out.length
      · obtain ⟨j, h1, h2, h3⟩ := h.sur p e
        exact ⟨j, by omega, h2, by rw [hset, if_neg (by omega)]; exact h3⟩
      · exact ⟨i, by omega, hu, by rw [hset, if_pos rfl]; omega⟩
    · rcases get_snoc hp with ⟨a, _⟩ | ⟨_, rfl⟩
      · exact (h.nf p g a).app _ (hold p g a)
      · exact hnf.app _ hg'in
  · rw [if_neg hu]
    have hne : ∀ j, j < i + 1 → use.getD j false = true → j < i := fun j h1 h2 => by
      by_cases e : j = i
      · subst e; exact absurd h2 hu
      · omega
    refine ⟨h.len, fun j hj hji hju => h.get j hj (hne j hji hju) hju, fun j k hji hki hju hku e => h.inj j k (hne j hji hju) (hne k hki hku) hju hku e, fun p hp => ?_, h.nf, h.nd⟩
    obtain ⟨j, h1, h2, h3⟩ := h.sur p hp
    exact ⟨j, by omega, h2, h3⟩
theorem PJ.all {N : Int} {B : Nat} {L : List Gate} (hw : wfL N B L) (hd : ND L) (hnf : NFL L) {use : List Bool} {n : Nat} (hn : n ≤ L.length) (hc : ∀ i (hi : i < L.length), i < n → use.getD i false = true → ∀ x ∈ L[i].inp, use.getD x.toNat false = true) :
    ∀ (m i : Nat) (r : List Gate) (out : List Gate) (place : List Int), i + m = n → r = (L.take n).drop i → PJ L use n i out place → PJ L use n n (placeGo use r i (out, place)).1 (placeGo use r i (out, place)).2
  | 0, i, r, out, place, hm, hr, h => by
    have : r = [] := by rw [hr]; simp; omega
    rw [this]
    have e : i = n := by omega
    subst e
    exact h
  | m + 1, i, r, out, place, hm, hr, h => by
    have hi : i < L.length := by omega
    have h1 := h.one hw hd hnf hi (by omega) hc
    have hr2 : r = L[i] :: (L.take n).drop (i + 1) := by
      rw [hr, List.drop_eq_getElem_cons (by simp; omega)]
      simp
    rw [hr2, placeGo]
    split
    · rename_i hu
      rw [if_pos hu] at h1
      exact PJ.all hw hd hnf hn hc m (i + 1) _ _ _ (by omega) rfl h1
    · rename_i hu
      rw [if_neg hu] at h1
      exact PJ.all hw hd hnf hn hc m (i + 1) _ _ _ (by omega) rfl h1
/-- What the gates of a folded circuit are like. -/
structure Norm (N : Int) (B : Nat) (out : List Gate) : Prop where
  wf : wfL N B out
  nf : NFL out
  nd : ND out
  pos : 0 < out.length
  used : ∀ p, p < out.length → (useOf out (out.length - 1)).getD p false = true
def idxs (n : Nat) : List Int := (List.range n).map Int.ofNat
end Go.Proofs.YtbemhgojfehnjaaDoor
