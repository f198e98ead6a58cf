/-
  What circ's functions on circuits compute: Size, inputs, good, Check; lit.Var, lit.Valid; slices.ContainsFunc.
-/
import Derived.Test.YtlifakbdgmdafaaWSets
namespace Go.Proofs.Ytlifakbdgmdafaa
open Go Go.RowKit

set_option maxHeartbeats 400000 in
theorem circ_size (N : Int) (V : Value) (gs : List Gate) (w : World) (B : Nat) (hB : B ≤ w.heap.size) (hg : GatesV w B V gs) (hs : sizeOf gs ≤ 4611686018427387904) :
    Calls Try.prog 56 #[.agg #[.int .i64 N, V]] w fun e w' => e = .returned (.int .i64 ((sizeOf gs : Nat) : Int)) ∧ Below w.heap.size w w' := by
  obtain ⟨A, c, rfl, hlc, hcm, _⟩ := id hg
  unfold maxLen at hcm
  go_enter Try.func56, Try.ntmps56
  go_wp2
  go_loopw [3, 9] (fun s i wr => ∃ k : Nat, k ≤ gs.length ∧ i = .int .i64 k ∧ s = .int .i64 ((sizeTo gs k : Nat) : Int) ∧ Below w.heap.size w wr) (fun _ i _ => gs.length - (intOf i).toNat)
  case atStart => exact ⟨0, Nat.zero_le _, rfl, by rw [sizeTo_zero]; rfl, (Below.refl _ _).alloc (Nat.le_refl _) _⟩
  case round =>
    obtain ⟨k, hk, rfl, rfl, hb⟩ := hrel
    by_cases hlt : k < gs.length
    · obtain ⟨b, o, A', c', rfl, hbB, h0, h1, h2, hI, hnc, hcm'⟩ := hg.at_ (hb.mono hB) hlt
      have hsz := Lib.hid (sizeTo_succ gs k hlt)
      have hle1 := sizeTo_le gs (k + 1)
      have hle2 := sizeTo_succ gs k hlt
      have hle : sizeTo gs k + gs[k].inp.length ≤ 4611686018427387904 := by omega
      clear hle1 hle2
      go_wp2
      go_roundw
      case rel => exact ⟨k + 1, by omega, by go_num, by rw [hsz.out]; simp, hb.alloc hb.size _⟩
      case measure => simp [intOf]; omega
    · go_wp2
      go_ret
      have : k = gs.length := by omega
      subst this
      exact ⟨rfl, hb⟩

set_option maxHeartbeats 800000 in
theorem circ_inputs (k n : Int) (w : World) :
    Calls Try.prog 76 #[(.int .i64 (k)), (.int .i64 (n))] w fun e w' => e = .returned (.bool (allowedB k n)) ∧ w = w' := by
  by_cases h0 : k = 0
  · subst h0
    go_enter Try.func76, Try.ntmps76
    go_wp2
    go_ret
    exact ⟨ret_bool (by simp [allowedB]), rfl⟩
  by_cases h1 : k = 1
  · subst h1
    go_enter Try.func76, Try.ntmps76
    go_wp2
    go_ret
    exact ⟨ret_bool (by simp [allowedB]), rfl⟩
  by_cases h2 : k = 2
  · subst h2
    go_enter Try.func76, Try.ntmps76
    go_wp2
    go_ret
    exact ⟨ret_bool (by simp [allowedB]), rfl⟩
  by_cases h3 : k = 3
  · subst h3
    go_enter Try.func76, Try.ntmps76
    go_wp2
    go_ret
    exact ⟨ret_bool (by simp [allowedB]), rfl⟩
  by_cases h4 : k = 4
  · subst h4
    go_enter Try.func76, Try.ntmps76
    go_wp2
    go_ret
    exact ⟨ret_bool (by simp [allowedB]), rfl⟩
  by_cases h5 : k = 5
  · subst h5
    go_enter Try.func76, Try.ntmps76
    go_wp2
    go_ret
    exact ⟨ret_bool (by simp [allowedB]), rfl⟩
  by_cases h7 : k = 7
  · subst h7
    go_enter Try.func76, Try.ntmps76
    go_wp2
    go_ret
    exact ⟨ret_bool (by simp [allowedB]), rfl⟩
  by_cases h8 : k = 8
  · subst h8
    go_enter Try.func76, Try.ntmps76
    go_wp2
    go_ret
    exact ⟨ret_bool (by simp [allowedB]), rfl⟩
  go_enter Try.func76, Try.ntmps76
  go_wp2
  go_ret
  exact ⟨ret_bool (by simp [allowedB, h0, h1, h2, h3, h7, h8]), rfl⟩

theorem lit_Var (l : Int) (w : World) :
    Calls Try.prog 79 #[(.int .i64 (l))] w fun e w' => e = .returned (.int .i64 (litVar l)) ∧ w = w' := by
  by_cases h : 1 ≤ l ∧ l ≤ 128
  · have e : litVar l = l := by unfold litVar; rw [if_pos h]
    rw [e]
    obtain ⟨h1, h2⟩ := h
    clear e
    go_enter Try.func79, Try.ntmps79
    go_wp2
    go_ret
    exact ⟨rfl, rfl⟩
  · by_cases h' : -128 ≤ l ∧ l ≤ -1
    · have e : litVar l = -l := by unfold litVar; rw [if_neg h, if_pos h']
      rw [e]
      obtain ⟨h1, h2⟩ := h'
      clear e h
      have h3 : ¬ 1 ≤ l := by omega
      go_enter Try.func79, Try.ntmps79
      go_wp2
      go_ret
      exact ⟨rfl, rfl⟩
    · have e : litVar l = 0 := by unfold litVar; rw [if_neg h, if_neg h']
      rw [e]
      clear e
      rcases (show 128 < l ∨ l = 0 ∨ l < -128 from by omega) with h3 | h3 | h3
      · have h4 : 1 ≤ l := by omega
        clear h h'
        go_enter Try.func79, Try.ntmps79
        go_wp2
        go_ret
        exact ⟨rfl, rfl⟩
      · subst h3
        clear h h'
        go_enter Try.func79, Try.ntmps79
        go_wp2
        go_ret
        exact ⟨rfl, rfl⟩
      · have h4 : l ≤ -1 := by omega
        clear h h'
        go_enter Try.func79, Try.ntmps79
        go_wp2
        go_ret
        exact ⟨rfl, rfl⟩

theorem lit_Valid (l n : Int) (w : World) :
    Calls Try.prog 62 #[(.int .i64 (l)), (.int .i64 (n))] w fun e w' => e = .returned (.bool (litOk l n)) ∧ w = w' := by
  have hr := litVar_range l
  have e : litOk l n = (decide (litVar l ≠ 0) && decide (litVar l ≤ n)) := by unfold litOk; simp
  rw [e]
  clear e
  have k1 : ∀ w, Calls Try.prog 79 #[(.int .i64 (l))] w fun e w' => e = .returned (.int .i64 (litVar l)) ∧ w = w' := lit_Var l
  generalize litVar l = x at k1 hr
  have K1 := Lib.hid k1
  clear k1
  by_cases h : x = 0
  · subst h
    go_enter Try.func62, Try.ntmps62
    go_wp2_with (go_at_call 79; refine (K1.out _).mono ?_; rintro e w' ⟨rfl, rfl⟩)
    go_ret
    exact ⟨rfl, rfl⟩
  · have h1 : (x != 0) = true := by simp [h]
    have h2 : decide (x ≠ 0) = true := by simp [h]
    rw [h2]
    clear h h2
    go_enter Try.func62, Try.ntmps62
    go_wp2_with (go_at_call 79; refine (K1.out _).mono ?_; rintro e w' ⟨rfl, rfl⟩)
    go_ret
    exact ⟨ret_bool (by simp), rfl⟩

set_option maxHeartbeats 800000 in
theorem index_func (F : FuncId) (C : Value) (p : Int → Bool) (w : World) (B : Nat) (V : Value) (xs : List Int) (hB : B ≤ w.heap.size) (hx : IntsV w B V xs)
    (hF : ∀ (args : Array Value) (w : World), (callFunc F args).run Try.prog w = .ok (.enter F args) w)
    (hf : ∀ (i : Nat) (x : Int) (w' : World), xs[i]? = some x → Below w.heap.size w w' → Calls Try.prog F #[.int .i64 x, C] w' fun e w'' => e = .returned (.bool (p x)) ∧ Below w'.heap.size w' w'') :
    Calls Try.prog 84 #[V, .func (.func F) #[] #[C]] w fun e w' => (∃ r : Int, e = .returned (.int .i64 r) ∧ decide (0 ≤ r) = xs.any p) ∧ Below w.heap.size w w' := by
  obtain ⟨A, c, rfl, hlc, hcm, _⟩ := id hx
  unfold maxLen at hcm
  have HF := Lib.hid hf
  clear hf
  go_enter Try.func84, Try.ntmps84
  go_wp2
  go_loopw [8] (fun i wr => ∃ k : Nat, k ≤ xs.length ∧ i = .int .i64 k ∧ (xs.take k).any p = false ∧ Below w.heap.size w wr) (fun i _ => xs.length - (intOf i).toNat)
  case atStart => exact ⟨0, Nat.zero_le _, rfl, rfl, Below.refl _ _⟩
  case round =>
    obtain ⟨k, hk, rfl, hno, hb⟩ := hrel
    have HNO := Lib.hid hno
    clear hno
    by_cases hlt : k < xs.length
    · obtain ⟨b, o, rfl, hbB, hcell⟩ := hx.at_ (hb.mono hB) hlt
      have h1 := HF.out k xs[k] wr (List.getElem?_eq_getElem hlt) hb
      have htk := Lib.hid (List.take_succ_eq_append_getElem hlt)
      have hany : p xs[k] = true → xs.any p = true := fun h => List.any_eq_true.2 ⟨_, List.getElem_mem hlt, h⟩
      have HANY := Lib.hid hany
      clear hany
      generalize xs[k] = x at h1 hcell htk HANY
      have H1 := Lib.hid h1
      clear h1
      cases hp : p x
      · rw [hp] at H1
        have HP := Lib.hid hp
        clear hp
        go_wp2_with fail
        refine H1.out.mono ?_
        rintro e w' ⟨rfl, hbb⟩
        go_wp2
        go_roundw
        case rel => exact ⟨k + 1, by omega, by go_num, by rw [htk.out, List.any_append, HNO.out]; simp [HP.out], hb.trans (hbb.mono hb.size)⟩
        case measure => simp [intOf]; omega
      · rw [hp] at H1
        have HA := Lib.hid (HANY.out hp)
        clear hp
        go_wp2_with fail
        refine H1.out.mono ?_
        rintro e w' ⟨rfl, hbb⟩
        go_wp2
        go_ret
        exact ⟨⟨_, rfl, by rw [HA.out]; simp⟩, hb.trans (hbb.mono hb.size)⟩
    · go_wp2
      go_ret
      have e : k = xs.length := by omega
      subst e
      rw [List.take_length] at HNO
      exact ⟨⟨_, rfl, by rw [HNO.out]; rfl⟩, hb⟩

theorem contains_func (F : FuncId) (C : Value) (p : Int → Bool) (w : World) (B : Nat) (V : Value) (xs : List Int) (hB : B ≤ w.heap.size) (hx : IntsV w B V xs)
    (hF : ∀ (args : Array Value) (w : World), (callFunc F args).run Try.prog w = .ok (.enter F args) w)
    (hf : ∀ (i : Nat) (x : Int) (w' : World), xs[i]? = some x → Below w.heap.size w w' → Calls Try.prog F #[.int .i64 x, C] w' fun e w'' => e = .returned (.bool (p x)) ∧ Below w'.heap.size w' w'') :
    Calls Try.prog 74 #[V, .func (.func F) #[] #[C]] w fun e w' => e = .returned (.bool (xs.any p)) ∧ Below w.heap.size w w' := by
  have H := Lib.hid (index_func F C p w B V xs hB hx hF hf)
  clear hf
  go_enter Try.func74, Try.ntmps74
  go_wp2_with fail
  refine H.out.mono ?_
  rintro e w' ⟨⟨r, rfl, hr⟩, hbb⟩
  have HR := Lib.hid hr
  clear hr
  go_wp2
  go_ret
  exact ⟨ret_bool HR.out, hbb⟩
end Go.Proofs.Ytlifakbdgmdafaa
