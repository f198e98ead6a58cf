/-
  What the encoder's methods add and fresh do.
-/
import Derived.Test.YtlifakbdgmdafaaEnc
namespace Go.Proofs.Ytlifakbdgmdafaa
open Go Go.RowKit

theorem Enc.put_full {w : World} {Av : Nat → Prop} {base ge : Nat} {s : ES} (h : Enc w Av base ge s) : Enc (w.setCell ⟨ge, 2, none⟩ (.bool true)) Av base ge ⟨s.n, s.L, true⟩ := by
  obtain ⟨h1, A, c, h2, rvs, h3, h4⟩ := h
  refine ⟨h1, A, c, by have := h2.put 2 (.bool true); simpa using this, rvs, own_setCell h3 (by exact own_blk_ne h3 h2 (by decide)) _, fun i c hc => ?_⟩
  obtain ⟨rv, h5, h6, h7⟩ := h4 i c hc
  exact ⟨rv, h5, own_setCell h6 (by exact own_blk_ne h6 h2 (by decide)) _, h7⟩

set_option maxRecDepth 100000 in
set_option maxHeartbeats 1600000 in
theorem enc_fresh (w : World) (Av : Nat → Prop) (base ge : Nat) (s : ES) (h : Enc w Av base ge s) (hn : 0 ≤ s.n) (hn2 : s.n ≤ 128) :
    Calls Try.prog 59 #[.pointer (some ⟨ge, 0, none⟩)] w fun e w' => e = .returned (.int .i64 s.var) ∧ Enc w' Av base ge s.fresh ∧ Fr base ge w w' := by
  obtain ⟨n, L, full⟩ := s
  simp only at hn hn2
  have hh := h
  obtain ⟨h1, A, c, h2, h3⟩ := h
  have q0 := h2.cell 0
  have q1 := h2.cell 1
  have q2 := h2.cell 2
  have f0 := h2.free 0
  have f2 := h2.free 2
  simp at q0 q1 q2
  by_cases e : n = 128
  · subst e
    have HP := Lib.hid (Enc.put_full hh)
    go_enter Try.func59, Try.ntmps59
    go_wp2
    go_ret
    exact ⟨rfl, HP.out, Fr.setCell (p := ⟨ge, 2, none⟩) w rfl _⟩
  · have e1 : (n == 128) = false := by simp [e]
    have ev : ES.var ⟨n, L, full⟩ = n + 1 := by unfold ES.var; rw [if_neg e]
    have ef : ES.fresh ⟨n, L, full⟩ = ⟨n + 1, L, full⟩ := by unfold ES.fresh; rw [if_neg e]
    rw [ev, ef]
    have HP : Enc (w.setCell ⟨ge, 0, none⟩ (.int .i64 (n + 1))) Av base ge ⟨n + 1, L, full⟩ := by
      obtain ⟨rvs, h3, h4⟩ := h3
      refine ⟨h1, A, c, by have := h2.put 0 (.int .i64 (n + 1)); simpa using this, rvs, own_setCell h3 (by exact own_blk_ne h3 h2 (by decide)) _, fun i c hc => ?_⟩
      obtain ⟨rv, h5, h6, h7⟩ := h4 i c hc
      exact ⟨rv, h5, own_setCell h6 (by exact own_blk_ne h6 h2 (by decide)) _, h7⟩
    have HP' := Lib.hid HP
    clear HP e ev ef
    go_enter Try.func59, Try.ntmps59
    go_wp2
    go_ret
    exact ⟨rfl, HP'.out, Fr.setCell (p := ⟨ge, 0, none⟩) w rfl _⟩

theorem own_empty {w : World} {g base : Nat} (h : Blk w g 3 #[]) (hb : base ≤ g) : OwnInts w base (.slice (some ⟨g, 0, none⟩) 0 0) [] :=
  ⟨rfl, .inr ⟨g, 0, #[], rfl, hb, h, Nat.le_refl _, by unfold maxLen; omega, rfl, rfl⟩⟩
/-- The row that a new one is put behind. -/
theorem OwnRows.snoc {w w2 w3 : World} {Av : Nat → Prop} {base : Nat} {v v3 : Value} {L : List (List Int)} {rvs : List Value} {rv : Value} {l : List Int} (h3 : w.ownsRow base 30 1 v L.length rvs)
    (h4 : ∀ (i : Nat) (c : List Int), L[i]? = some c → ∃ rv, rvs[i]? = some rv ∧ OwnInts w base rv c ∧ ∀ k, rv.ownBlock = some k → Av k) (hb : Below w.heap.size w w2) (hrv : OwnInts w2 base rv l) (hrA : ∀ k, rv.ownBlock = some k → Av k)
    (h5 : w3.ownsRow base 30 1 v3 (L.length + 1) (rvs ++ [rv])) (hg : w2.grownBy w3 v.ownBlock) : OwnRows w3 Av base v3 (L ++ [l]) := by
  have keep : ∀ {rv : Value} {c : List Int}, OwnInts w2 base rv c → OwnInts w3 base rv c := fun {rv c} hc => by
    refine World.ownsRow.kept hc hg ?_
    by_cases e : rv.ownBlock = none
    · exact .inl e
    · right
      intro e2
      rcases hc.2 with ⟨rfl, _⟩ | ⟨g, cap, cur, rfl, _, hh, _⟩
      · exact e rfl
      · have h3' := own_below h3 hb
        exact own_blk_ne h3' (t := 3) (cs := cur) (g := g) hh (by decide) (by rw [← e2]; rfl)
  refine ⟨rvs ++ [rv], by rw [List.length_append]; exact h5, fun i c hc => ?_⟩
  have hlen : rvs.length = L.length := by have := h3.1; omega
  by_cases e : i < L.length
  · rw [List.getElem?_append_left e] at hc
    obtain ⟨rv', h6, h7, h8⟩ := h4 i c hc
    exact ⟨rv', by rw [List.getElem?_append_left (by omega)]; exact h6, keep (h7.below hb), h8⟩
  · rw [List.getElem?_append_right (by omega)] at hc
    have e2 : i - L.length = 0 := by
      have := (List.getElem?_eq_some_iff.1 hc).1
      simp at this; omega
    rw [e2] at hc
    injection hc with hc
    subst hc
    exact ⟨rv, by rw [List.getElem?_append_right (by omega), hlen, e2]; rfl, keep hrv, hrA⟩

theorem Enc.put_rows {w : World} {Av : Nat → Prop} {base ge : Nat} {n : Int} {L : List (List Int)} {l : List Int} {full : Bool} {A : Option Addr} {c : Nat} {v0 : Value} (h1 : base ≤ ge) (h2 : Blk w ge 57 #[.int .i64 n, v0, .bool full])
    (h3 : OwnRows w Av base (.slice A (L.length + 1) c) (L ++ [l])) : Enc (w.setCell ⟨ge, 1, none⟩ (.slice A (L.length + 1) c)) Av base ge ⟨n, L ++ [l], full⟩ := by
  obtain ⟨rvs, h3, h4⟩ := h3
  have hlen : (L ++ [l]).length = L.length + 1 := by simp
  refine ⟨h1, A, c, ?_, rvs, ?_, fun i c hc => ?_⟩
  · have := h2.put 1 (.slice A (L.length + 1) c)
    simpa [hlen] using this
  · have := own_setCell h3 (p := ⟨ge, 1, none⟩) (by exact own_blk_ne h3 h2 (by decide)) (.slice A (L.length + 1) c)
    simp only [hlen] at this ⊢
    exact this
  · obtain ⟨rv, h5, h6, h7⟩ := h4 i c hc
    exact ⟨rv, h5, own_setCell h6 (p := ⟨ge, 1, none⟩) (by exact own_blk_ne h6 h2 (by decide)) _, h7⟩

set_option maxRecDepth 100000 in
set_option maxHeartbeats 3200000 in
theorem enc_add (w : World) (Av : Nat → Prop) (hA : ∀ k, w.heap.size ≤ k → Av k) (base ge : Nat) (s : ES) (V : Value) (l : List Int) (B : Nat) (h : Enc w Av base ge s) (hV : IntsV w B V l) (hB : B ≤ w.heap.size) (hl : l.length ≤ 1048576) (hL : s.L.length ≤ 1048576) :
    Calls Try.prog 32 #[.pointer (some ⟨ge, 0, none⟩), V] w fun e w' => e = .returned (.tuple #[]) ∧ Enc w' Av base ge (s.add l) ∧ Fr base ge w w' := by
  obtain ⟨n, L, full⟩ := s
  simp only at hL
  have hh := h
  obtain ⟨h1, A, c, h2, rvs, h3, h4⟩ := h
  have q0 := h2.cell 0
  have q1 := h2.cell 1
  have q2 := h2.cell 2
  have f1 := h2.free 1
  have f2 := h2.free 2
  simp at q0 q1 q2
  by_cases e : 4096 < L.length
  · have ef : ES.add ⟨n, L, full⟩ l = ⟨n, L, true⟩ := by unfold ES.add; rw [if_pos e]
    rw [ef]
    have HP := Lib.hid (Enc.put_full hh)
    clear ef
    go_enter Try.func32, Try.ntmps32
    go_wp2
    refine bodyPost_ret (results_none rfl _ _ _) rfl ?_
    exact ⟨rfl, HP.out, Fr.setCell (p := ⟨ge, 2, none⟩) w rfl _⟩
  · have ef : ES.add ⟨n, L, full⟩ l = ⟨n, L ++ [l], full⟩ := by unfold ES.add; rw [if_neg e]
    rw [ef]
    clear ef
    have lt := h2.lt
    have H3 := Lib.hid h3
    have H4 := Lib.hid h4
    have H2 := Lib.hid h2
    have HV := Lib.hid hV
    clear h3 h4 hh h2 hV
    go_enter Try.func32, Try.ntmps32
    go_wp2
    have C0 := H2.out.later 0 _ rfl
    have C1 := H2.out.later 1 _ rfl
    have hd : Below w.heap.size w w.drew := (Below.refl _ _).drew
    have hal : ∀ (W : World) (o : Obj), Below w.heap.size w W → Below w.heap.size w (W.alloc o) := fun W o h => h.alloc h.size o
    have hdr : ∀ (W : World), Below w.heap.size w W → Below w.heap.size w W.drew := fun W h => h.drew
    have hbg : base ≤ w.heap.size := by omega
    go_region_law (first
      | (refine step_append_ints _ rfl (.tmp 20) (.tmp 21) rfl w.heap.size B (.slice (some ⟨w.heap.size, 0, none⟩) 0 0) V [] l rfl (own_empty (by exact Blk.new w _ _) (Nat.le_refl _)) rfl (HV.out.below (Below.mono (hdr _ (hal _ _ (Below.refl _ _))) hB)) (by simp <;> omega) (by simp <;> omega) (fun A2 c2 w2 hown2 hg2 => ?_); have hB2 : Below w.heap.size w w2 := (hdr _ (hal _ _ (Below.refl _ _))).trans (below_of_grown hg2 (by simp) (fun k hk => by simp [Value.ownBlock] at hk; omega)); simp only [List.nil_append] at hown2)
      | (refine step_append_row w2 rfl (.tmp 19) (.tmp 23) rfl base _ L.length rvs rfl (own_below H3.out hB2) _ rfl rfl (by omega) (Nat.le_trans hbg hB2.size) (fun A3 c3 w3 hown3 hg3 => ?_); have C3 := (Blk.grown (H2.out.keep hB2) hg3 (by exact (own_blk_ne (own_below H3.out hB2) (H2.out.keep hB2) (by decide)).symm)); have q3 := C3.cell 1; have f3 := C3.free 1; simp at q3))
    all_goals
      go_end0
      refine ⟨rfl, Enc.put_rows h1 C3 (OwnRows.snoc H3.out H4.out hB2 (OwnInts.base hown2 hbg) (fun k hk => hA k (own_ge hown2 hk).1) hown3 hg3), ((Fr.of_below hB2).trans (Fr.grown (own_below H3.out hB2) hg3)).trans (Fr.setCell (p := ⟨ge, 1, none⟩) _ rfl _)⟩
end Go.Proofs.Ytlifakbdgmdafaa
