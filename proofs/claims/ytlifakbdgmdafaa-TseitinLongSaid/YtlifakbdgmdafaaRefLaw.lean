/-
  What censusref10 computes is what tseitin computes. Plain lemmas. What censusref10's Extend computes is what tseitin's computes. Plain lemmas.
-/
import Derived.Test.YtlifakbdgmdafaaSem3
import Derived.Test.YtlifakbdgmdafaaRef10
namespace Go.Proofs.Ytlifakbdgmdafaa
open Go Go.RowKit

theorem RS.fresh_open {s : RS} (hc : s.closed = false) (hn : s.n + 1 ≤ 128) (b : Bool) : s.fresh b = ⟨s.n + 1, s.L, if b then s.a.with_ (s.n + 1) else s.a, false⟩ ∧ s.var = s.n + 1 := by
  have h : ¬ 128 < s.n + 1 := by omega
  simp [RS.fresh, RS.var, h, hc]
theorem RS.fresh_shut {s : RS} (hn : 128 < s.n + 1) (b : Bool) : (s.fresh b).closed = true := by
  simp only [RS.fresh, if_pos hn]
theorem RS.xor_closed {s : RS} (h : s.closed = true) (last : Int) (r : List Int) : s.xorGo last r = (s, last) := by
  cases r with
  | nil => rfl
  | cons a r => rw [RS.xorGo, if_pos h]
theorem RS.xor_spec (r : List Int) : ∀ (s : RS) (last : Int), s.closed = false → s.n ≤ 128 →
    ((xorS s.n last r).1 ≤ 128 ∧ ∃ a', s.xorGo last r = (⟨(xorS s.n last r).1, s.L ++ (xorS s.n last r).2.1, a', false⟩, (xorS s.n last r).2.2)) ∨ (128 < (xorS s.n last r).1 ∧ (s.xorGo last r).1.closed = true) := by
  induction r with
  | nil =>
    intro s last hc hn
    left
    obtain ⟨n, L, a, c⟩ := s
    simp only at hc
    subst hc
    exact ⟨hn, a, by simp [RS.xorGo, xorS]⟩
  | cons x r ih =>
    intro s last hc hn
    have hle := xorS_le (s.n + 1) (s.n + 1) r
    rw [RS.xorGo, if_neg (by simp [hc])]
    by_cases hn1 : s.n + 1 ≤ 128
    · obtain ⟨h1, h2⟩ := RS.fresh_open hc hn1 (holdsL s.a last != holdsL s.a x)
      rw [h1, h2]
      simp only [RS.adds, xorS]
      rcases ih ⟨s.n + 1, s.L ++ sumRows (s.n + 1) last x, _, false⟩ (s.n + 1) rfl hn1 with ⟨h3, a', h4⟩ | ⟨h3, h4⟩
      · left
        refine ⟨h3, a', ?_⟩
        rw [h4]
        simp
      · right; exact ⟨h3, h4⟩
    · right
      have h1 := RS.fresh_shut (s := s) (by omega) (holdsL s.a last != holdsL s.a x)
      refine ⟨by simp only [xorS]; omega, ?_⟩
      rw [RS.xor_closed (by simp only [RS.adds]; exact h1)]
      exact h1
theorem RS.gate_spec (s : RS) (kind lit : Int) (l : List Int) (hc : s.closed = false) (hn : s.n ≤ 128) :
    ((gateS s.n kind lit l).1 ≤ 128 ∧ ∃ a', s.gate kind lit l = (⟨(gateS s.n kind lit l).1, s.L ++ (gateS s.n kind lit l).2.1, a', false⟩, (gateS s.n kind lit l).2.2)) ∨ (128 < (gateS s.n kind lit l).1 ∧ (s.gate kind lit l).1.closed = true) := by
  unfold RS.gate gateS
  by_cases h2 : kind = 2
  · rw [if_pos h2, if_pos h2]
    left
    obtain ⟨n, L, a, c⟩ := s
    simp only at hc
    subst hc
    exact ⟨hn, a, by simp⟩
  · rw [if_neg h2, if_neg h2]
    by_cases h6 : kind = 6 ∧ 1 < l.length
    · rw [if_pos h6, if_pos h6]; exact RS.xor_spec _ s _ hc hn
    · rw [if_neg h6, if_neg h6]
      by_cases hn1 : s.n + 1 ≤ 128
      · obtain ⟨h1, h3⟩ := RS.fresh_open hc hn1 (kindVal kind (l.map (holdsL s.a)))
        rw [h1, h3]
        left
        exact ⟨hn1, _, rfl⟩
      · right
        exact ⟨by simp only []; omega, RS.fresh_shut (by omega) (kindVal kind (l.map (holdsL s.a)))⟩

/-- The gates, one after another; none: too long. -/
def encR (s : RS) (gate : List Int) : List Gate → Option (RS × List Int)
  | [] => some (s, gate)
  | g :: r => if (s.gate g.kind g.lit (inputsOf gate g)).1.closed = true ∨ 4096 < (s.gate g.kind g.lit (inputsOf gate g)).1.L.length then none else encR (s.gate g.kind g.lit (inputsOf gate g)).1 (gate ++ [(s.gate g.kind g.lit (inputsOf gate g)).2]) r
theorem encR_spec (gs : List Gate) : ∀ (s : RS) (gate : List Int), s.closed = false → s.n ≤ 128 → s.L.length ≤ 4096 →
    ((runS s.n s.L gate gs).1 ≤ 128 ∧ (runS s.n s.L gate gs).2.1.length ≤ 4096 ∧ ∃ a', encR s gate gs = some (⟨(runS s.n s.L gate gs).1, (runS s.n s.L gate gs).2.1, a', false⟩, (runS s.n s.L gate gs).2.2)) ∨
      ((128 < (runS s.n s.L gate gs).1 ∨ 4096 < (runS s.n s.L gate gs).2.1.length) ∧ encR s gate gs = none) := by
  induction gs with
  | nil =>
    intro s gate hc hn hL
    left
    obtain ⟨n, L, a, c⟩ := s
    simp only at hc
    subst hc
    exact ⟨hn, hL, a, rfl⟩
  | cons g r ih =>
    intro s gate hc hn hL
    have hle := runS_le (gateS s.n g.kind g.lit (inputsOf gate g)).1 (s.L ++ (gateS s.n g.kind g.lit (inputsOf gate g)).2.1) (gate ++ [(gateS s.n g.kind g.lit (inputsOf gate g)).2.2]) r
    rw [encR]
    simp only [runS]
    rcases s.gate_spec g.kind g.lit (inputsOf gate g) hc hn with ⟨h1, a', h2⟩ | ⟨h1, h2⟩
    · rw [h2]
      simp only [Bool.false_eq_true, false_or]
      by_cases h3 : 4096 < (s.L ++ (gateS s.n g.kind g.lit (inputsOf gate g)).2.1).length
      · right
        rw [if_pos h3]
        exact ⟨.inr (by omega), rfl⟩
      · rw [if_neg h3]
        exact ih ⟨_, s.L ++ (gateS s.n g.kind g.lit (inputsOf gate g)).2.1, a', false⟩ _ rfl h1 (Nat.le_of_not_lt h3)
    · right
      rw [if_pos (.inl h2)]
      exact ⟨.inl (by omega), rfl⟩
/-- What the reference's encode gives: the error, the state, the literals. -/
def encRAll (N : Int) (gs : List Gate) (a : VS) : Option (RS × List Int) := match encR ⟨N, [], a, false⟩ [] gs with
  | none => none
  | some (s, gate) => if thCheck (s.add [gate.getLastD 0]).n (s.add [gate.getLastD 0]).L = 0 then some (s.add [gate.getLastD 0], gate) else none
def refEncode (N : Int) (gs : List Gate) : EncR := if checkOf N gs ≠ 0 then EncR.err (checkOf N gs) else match encRAll N gs VS.empty with
  | none => EncR.err 2
  | some (s, gate) => ⟨0, s.n, s.L, gate⟩
theorem encRAll_spec {N : Int} {gs : List Gate} (hc : checkOf N gs = 0) (a : VS) :
    (thCheck (fullS N gs).n (fullS N gs).L = 0 ∧ ∃ a', encRAll N gs a = some (⟨(fullS N gs).n, (fullS N gs).L, a', false⟩, (fullS N gs).gate) ∧ encR ⟨N, [], a, false⟩ [] gs = some (⟨(runS N [] [] gs).1, (runS N [] [] gs).2.1, a', false⟩, (runS N [] [] gs).2.2)) ∨
      (thCheck (fullS N gs).n (fullS N gs).L ≠ 0 ∧ encRAll N gs a = none) := by
  have hb := check_bounds hc
  unfold encRAll
  rcases encR_spec gs ⟨N, [], a, false⟩ [] rfl (by simp only []; omega) (by simp) with ⟨h1, h2, a', h3⟩ | ⟨h1, h2⟩
  · rw [h3]
    simp only at h1 h2 ⊢
    by_cases ht : thCheck (fullS N gs).n (fullS N gs).L = 0
    · left
      refine ⟨ht, a', ?_, rfl⟩
      have ht' : thCheck (runS N [] [] gs).1 ((runS N [] [] gs).2.1 ++ [[(runS N [] [] gs).2.2.getLastD 0]]) = 0 := ht
      simp only [RS.add]
      exact (if_pos ht').trans rfl
    · right
      refine ⟨ht, ?_⟩
      have ht' : ¬ thCheck (runS N [] [] gs).1 ((runS N [] [] gs).2.1 ++ [[(runS N [] [] gs).2.2.getLastD 0]]) = 0 := ht
      simp only [RS.add]
      exact if_neg ht'
  · rw [h2]
    right
    refine ⟨fun h => ?_, rfl⟩
    have := (thCheck_zero _ _).1 h
    unfold fullS at this
    simp only [List.length_append, List.length_cons, List.length_nil] at this
    simp only at h1
    omega
/-- TseitinEncodes. -/
theorem refEncode_eq (N : Int) (gs : List Gate) : refEncode N gs = encodeOf N gs := by
  rw [encodeOf_eq]
  unfold refEncode
  by_cases hc : checkOf N gs = 0
  · rw [if_neg (by simp [hc]), if_neg (by simp [hc])]
    rcases encRAll_spec hc VS.empty with ⟨h1, a', h2, _⟩ | ⟨h1, h2⟩
    · rw [h2, if_pos h1]
      rfl
    · rw [h2, if_neg h1]
  · rw [if_pos hc, if_pos hc]
end Go.Proofs.Ytlifakbdgmdafaa

namespace Go.Proofs.Ytlifakbdgmdafaa
open Go Go.RowKit

theorem xorGo_ext (gate : List Int) (js : List Int) : ∀ (n : Int) (L : List (List Int)) (a : VS) (last : Int) (odd : Bool), 0 ≤ n → noneOver n a → okL n last → holdsL a last = odd → (xorS n last (js.map fun j => gate.getD j.toNat 0)).1 ≤ 128 →
    (⟨n, L, a, false⟩ : RS).xorGo last (js.map fun j => gate.getD j.toNat 0) =
      (⟨(xorS n last (js.map fun j => gate.getD j.toNat 0)).1, L ++ (xorS n last (js.map fun j => gate.getD j.toNat 0)).2.1, (xorExt gate (n, a) odd js).2, false⟩, (xorS n last (js.map fun j => gate.getD j.toNat 0)).2.2) := by
  induction js with
  | nil => intro n L a last odd _ _ _ _ _; simp [RS.xorGo, xorS, xorExt]
  | cons j r ih =>
    intro n L a last odd h0 hs hl ho hn
    simp only [List.map_cons, xorS] at hn ⊢
    have hle := xorS_le (n + 1) (n + 1) (r.map fun j => gate.getD j.toNat 0)
    have hn1 : n + 1 ≤ 128 := by omega
    rw [RS.xorGo, if_neg (by simp), xorExt]
    simp only
    rw [ho]
    generalize hb : (odd != holdsL a (gate.getD j.toNat 0)) = b
    obtain ⟨h1, h2⟩ := RS.fresh_open (s := ⟨n, L, a, false⟩) rfl hn1 b
    rw [h1, h2]
    simp only [RS.adds]
    have hs1 := set_none (b := b) hs
    have hh1 := set_has (b := b) h0 hn1 hs
    have e : (setV (n, a) b).2 = if b then a.with_ (n + 1) else a := rfl
    have e2 : setV (n, a) b = (n + 1, (setV (n, a) b).2) := rfl
    rw [← e, e2]
    generalize (setV (n, a) b).2 = a1 at hs1 hh1
    have hv : holdsL a1 (n + 1) = b := by
      rw [holdsL_in (.inl ⟨by omega, hn1⟩), litHolds_var (by omega) hn1]; exact hh1
    rw [ih (n + 1) (L ++ sumRows (n + 1) last (gate.getD j.toNat 0)) a1 (n + 1) b (by omega) hs1 (.inl ⟨by omega, by omega⟩) hv hn]
    simp

/-- The reference's state after k gates. -/
def refTo (N : Int) (gs : List Gate) (gate : List Int) (a : VS) (k : Nat) : RS := ⟨(runTo N gs k).1, (runTo N gs k).2.1, (extTo N gs gate a k).2, false⟩
theorem refTo_step {N : Int} {gs : List Gate} {a : VS} (hc : checkOf N gs = 0) (hn : (runS N [] [] gs).1 ≤ 128) (ha : noneOver N a) (k : Nat) (hlt : k < gs.length) :
    (refTo N gs (runS N [] [] gs).2.2 a k).gate gs[k].kind gs[k].lit (inputsOf (runTo N gs k).2.2 gs[k]) = (refTo N gs (runS N [] [] gs).2.2 a (k + 1), (gateS (runTo N gs k).1 gs[k].kind gs[k].lit (inputsOf (runTo N gs k).2.2 gs[k])).2.2) := by
  obtain ⟨gate, hgate⟩ : ∃ gate, gate = (runS N [] [] gs).2.2 := ⟨_, rfl⟩
  have hinv := inv_all hc hn ha k (by omega)
  rw [← hgate] at hinv ⊢
  obtain ⟨i1, i2, i3, i3', i4, _⟩ := hinv
  have hb := check_bounds hc
  have hg := check_gate hc k hlt
  have hgl := good_len hg
  have hgt : (runTo N gs k).2.2 = gate.take k := by rw [hgate, ← runTo_all]; exact (runTo_mono N gs k gs.length (by omega) (Nat.le_refl _)).1
  have hn1 : (runTo N gs (k + 1)).1 ≤ 128 := Int.le_trans (runTo_mono N gs (k + 1) gs.length hlt (Nat.le_refl _)).2 (by rw [runTo_all]; exact hn)
  have hin : inputsOf (runTo N gs k).2.2 gs[k] = gs[k].inp.map fun j => gate.getD j.toNat 0 := by
    unfold inputsOf
    apply List.map_congr_left
    intro j hj
    obtain ⟨m, hm⟩ := List.getElem?_of_mem hj
    have := good_in' hg m j hm
    rw [hgt, List.getD_eq_getElem?_getD, List.getD_eq_getElem?_getD, List.getElem?_take_of_lt (by omega)]
  have hrun := runTo_succ N gs k hlt
  have hext := extTo_succ N gs gate a k hlt
  rw [hin] at hrun ⊢
  have hnn : (runTo N gs k).1 ≤ 128 := Int.le_trans (runTo_mono N gs k (k + 1) (by omega) hlt).2 hn1
  have hjs : ∀ j ∈ gs[k].inp, okL (runTo N gs k).1 (gate.getD j.toNat 0) ∧ holdsL (extTo N gs gate a k).2 (gate.getD j.toNat 0) = (valsTo gs a k).getD j.toNat false := by
    intro j hj
    obtain ⟨m, hm⟩ := List.getElem?_of_mem hj
    have := good_in' hg m j hm
    obtain ⟨q1, q2⟩ := i4 j.toNat (by omega)
    exact ⟨q1, by rw [holdsL_in (q1.mono hnn)]; exact q2⟩
  have hvals : (gs[k].inp.map fun j => gate.getD j.toNat 0).map (holdsL (extTo N gs gate a k).2) = inVals gs[k] (valsTo gs a k) := by
    unfold inVals
    rw [List.map_map]
    apply List.map_congr_left
    exact fun j hj => (hjs j hj).2
  have hev := eval_take hc ha k hlt
  have hcut := cut_eq i2 ha
  unfold refTo
  rw [hext]
  have hr1 : (runTo N gs (k + 1)).1 = (gateS (runTo N gs k).1 gs[k].kind gs[k].lit (gs[k].inp.map fun j => gate.getD j.toNat 0)).1 := by rw [hrun]
  have hr2 : (runTo N gs (k + 1)).2.1 = (runTo N gs k).2.1 ++ (gateS (runTo N gs k).1 gs[k].kind gs[k].lit (gs[k].inp.map fun j => gate.getD j.toNat 0)).2.1 := by rw [hrun]
  rw [hr1] at hn1
  rw [hr1, hr2]
  obtain ⟨st, hst⟩ : ∃ st, st = extTo N gs gate a k := ⟨_, rfl⟩
  rw [← hst] at i1 i2 i3 hjs hvals hcut ⊢
  obtain ⟨n, s⟩ := st
  simp only at i1 i2 i3 hjs hvals hcut ⊢
  subst i1
  generalize (runTo N gs k).1 = n at *
  generalize (runTo N gs k).2.1 = L at *
  clear hr1 hr2 hrun hext hst hgt hin i4
  generalize valsTo gs a k = vs at *
  have hlen2 : (gs[k].inp.map fun j => gate.getD j.toNat 0).length = gs[k].inp.length := by simp
  generalize gs[k] = g at *
  by_cases k2 : g.kind = 2
  · have e1 : extStep N gs gate k g (n, s) = (n, s) := by
      unfold extStep; rw [if_neg (by omega), if_pos k2]
    unfold RS.gate gateS
    rw [if_pos k2, if_pos k2, e1]
    simp
  · by_cases k6 : g.kind = 6 ∧ 1 < g.inp.length
    · have e1 : extStep N gs gate k g (n, s) = xorExt gate (n, s) (holdsL s (gate.getD (g.inp.getD 0 0).toNat 0)) g.inp.tail := by
        unfold extStep; rw [if_pos k6]
      unfold RS.gate
      unfold gateS at hn1 ⊢
      rw [if_neg k2, if_pos ⟨k6.1, by omega⟩] at hn1
      rw [if_neg k2, if_pos ⟨k6.1, by omega⟩, if_neg k2, if_pos ⟨k6.1, by omega⟩, e1]
      obtain ⟨gk, gl, gi⟩ := g
      simp only at k6 hjs hn1 ⊢
      match gi, k6.2, hjs, hn1 with
      | j0 :: js, _, hjs, hn1 =>
        simp only [List.map_cons, List.getD_cons_zero, List.tail_cons] at hn1 ⊢
        exact xorGo_ext gate js n L s (gate.getD j0.toNat 0) _ (by omega) i3 (hjs j0 List.mem_cons_self).1 rfl hn1
    · have e1 : extStep N gs gate k g (n, s) = setV (n, s) (valueOf g a vs) := by
        unfold extStep; rw [if_neg k6, if_neg k2]
        simp only
        rw [hcut, hev]
      have k6' : ¬ (g.kind = 6 ∧ 1 < (g.inp.map fun j => gate.getD j.toNat 0).length) := by rw [hlen2]; exact k6
      unfold RS.gate
      unfold gateS at hn1 ⊢
      rw [if_neg k2, if_neg k6'] at hn1
      rw [if_neg k2, if_neg k6', if_neg k2, if_neg k6', e1]
      simp only at hn1 ⊢
      rw [hvals, ← valueOf_kind a vs k2 hgl.2.2.2.1]
      obtain ⟨h1, h2⟩ := RS.fresh_open (s := ⟨n, L, s, false⟩) rfl hn1 (valueOf g a vs)
      rw [h1, h2]
      rfl
theorem encR_ext {N : Int} {gs : List Gate} {a : VS} (hc : checkOf N gs = 0) (hn : (runS N [] [] gs).1 ≤ 128) (hL : (runS N [] [] gs).2.1.length ≤ 4096) (ha : noneOver N a) : ∀ k, k ≤ gs.length → encR ⟨N, [], a, false⟩ [] gs = encR (refTo N gs (runS N [] [] gs).2.2 a k) (runTo N gs k).2.2 (gs.drop k) := by
  intro k
  induction k with
  | zero => intro _; rfl
  | succ k ih =>
    intro hk
    have hlt : k < gs.length := by omega
    rw [ih (by omega), List.drop_eq_getElem_cons hlt, encR, refTo_step hc hn ha k hlt]
    have hlen : (runTo N gs (k + 1)).2.1.length ≤ 4096 := by
      have h := runS_append N [] [] (gs.take (k + 1)) (gs.drop (k + 1))
      rw [List.take_append_drop] at h
      have h2 := runS_le (runTo N gs (k + 1)).1 (runTo N gs (k + 1)).2.1 (runTo N gs (k + 1)).2.2 (gs.drop (k + 1))
      unfold runTo at h2 ⊢
      rw [← h] at h2
      omega
    rw [if_neg (by simp only [refTo]; simp; exact hlen)]
    rw [runTo_succ N gs k hlt]
/-- What the reference's Extend gives. -/
def refExtend (N : Int) (gs : List Gate) (a : VS) : VS × Bool := if checkOf N gs ≠ 0 ∨ evalOf N gs a = false then (VS.empty, false) else match encRAll N gs a with
  | none => (VS.empty, false)
  | some (s, _) => (s.a, true)
/-- TseitinExtends. -/
theorem refExtend_eq (N : Int) (gs : List Gate) (a : VS) : refExtend N gs a = extendOf N gs a := by
  unfold refExtend
  by_cases hc : checkOf N gs = 0
  · by_cases hv : evalOf N gs a = true
    · rw [if_neg (by simp [hc, hv])]
      obtain ⟨_, ha⟩ := eval_none hv
      rcases encRAll_spec hc a with ⟨h1, a', h2, h3⟩ | ⟨h1, h2⟩
      · have he : (encodeOf N gs).e = 0 := by rw [encodeOf_eq, if_neg (by simp [hc]), if_pos h1]; rfl
        have hf := (thCheck_zero _ _).1 h1
        have hn : (runS N [] [] gs).1 ≤ 128 := hf.2.1
        have hL : (runS N [] [] gs).2.1.length ≤ 4096 := by
          have := hf.2.2.1
          unfold fullS at this
          simp only [List.length_append, List.length_cons, List.length_nil] at this
          omega
        have h4 := encR_ext hc hn hL ha gs.length (Nat.le_refl _)
        rw [h3, List.drop_length, encR] at h4
        injection h4 with h4
        simp only [Prod.mk.injEq, refTo, RS.mk.injEq] at h4
        rw [h2, extend_eq he hv]
        simp only
        rw [h4.1.2.2.1]
        have hg : (encodeOf N gs).gate = (runS N [] [] gs).2.2 := by rw [(encodeOf_ok he).2.1]; rfl
        rw [hg]
      · rw [h2, extend_no (.inl ?_)]
        rw [encodeOf_eq, if_neg (by simp [hc]), if_neg h1]
        simp [EncR.err]
    · have hv' : evalOf N gs a = false := by simpa using hv
      rw [if_pos (.inr hv'), extend_no (.inr hv')]
  · rw [if_pos (.inl hc), extend_no (.inr (evalOf_bad a hc))]
end Go.Proofs.Ytlifakbdgmdafaa
