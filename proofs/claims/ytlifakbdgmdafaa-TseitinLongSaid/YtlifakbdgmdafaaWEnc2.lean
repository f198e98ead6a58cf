/-
  What tseitin's sum, choice, and, xor do.
-/
import Derived.Test.YtlifakbdgmdafaaWEnc
namespace Go.Proofs.Ytlifakbdgmdafaa
open Go Go.RowKit

theorem ES.add_len (s : ES) (l : List Int) : (s.add l).L.length ≤ s.L.length + 1 := by
  unfold ES.add; split <;> simp
def ES.adds (s : ES) : List (List Int) → ES
  | [] => s
  | l :: r => (s.add l).adds r
theorem ES.adds_len (s : ES) (r : List (List Int)) : (s.adds r).L.length ≤ s.L.length + r.length := by
  induction r generalizing s with
  | nil => simp [ES.adds]
  | cons l r ih => have := ih (s.add l); have := s.add_len l; simp only [ES.adds, List.length_cons]; omega
theorem ES.adds_append (s : ES) (a b : List (List Int)) : s.adds (a ++ b) = (s.adds a).adds b := by
  induction a generalizing s with
  | nil => rfl
  | cons l r ih => simp only [List.cons_append, ES.adds]; exact ih _
theorem ES.add_n (s : ES) (l : List Int) : (s.add l).n = s.n := by unfold ES.add; split <;> rfl
theorem ES.adds_n (s : ES) (r : List (List Int)) : (s.adds r).n = s.n := by
  induction r generalizing s with
  | nil => rfl
  | cons l r ih => simp only [ES.adds]; rw [ih, ES.add_n]

theorem new_ints (w : World) (l : List Int) (hl : l.length ≤ 1048576) : IntsV (w.alloc (.cells (intCells l) 3)) (w.alloc (.cells (intCells l) 3)).heap.size (.slice (some ⟨w.heap.size, 0, none⟩) l.length l.length) l :=
  intCells_V (Blk.new w 3 (intCells l)) (by unfold maxLen; omega)

def sumRows (p a b : Int) : List (List Int) := [[-p, a, b], [-p, -a, -b], [p, -a, b], [p, a, -b]]
def choiceRows (g a b c : Int) : List (List Int) := [[-g, -a, b], [-g, a, c], [g, -a, -b], [g, a, -c]]

/-- add, as a value. -/
theorem add_step (w : World) (Av : Nat → Prop) (hA : ∀ k, w.heap.size ≤ k → Av k) (base ge : Nat) (s : ES) (l : List Int) (cs : Array Value) (n : Nat) (hcs : cs = intCells l) (hn : n = l.length) (h : Enc w Av base ge s) (hl : l.length ≤ 1000000) (hL : s.L.length ≤ 1000000) :
    Calls Try.prog 32 #[.pointer (some ⟨ge, 0, none⟩), .slice (some ⟨w.heap.size, 0, none⟩) n n] (w.alloc (.cells cs 3)) fun e w' => e = .returned (.tuple #[]) ∧ Enc w' Av base ge (s.add l) ∧ Fr base ge w w' := by
  subst hcs hn
  have hb : Below w.heap.size w (w.alloc (.cells (intCells l) 3)) := by go_grown
  exact (enc_add _ Av (fun k hk => hA k (Nat.le_trans hb.size hk)) base ge s _ l _ (h.below hb) (new_ints w l (by omega)) (Nat.le_refl _) (by omega) (by omega)).mono fun e w' ⟨h1, h2, h3⟩ => ⟨h1, h2, (Fr.of_below hb).trans h3⟩

set_option maxRecDepth 100000 in
set_option maxHeartbeats 1600000 in
theorem enc_sum (w : World) (Av : Nat → Prop) (hA : ∀ k, w.heap.size ≤ k → Av k) (base ge : Nat) (s : ES) (p a b : Int) (h : Enc w Av base ge s) (hL : s.L.length ≤ 900000) (hp : -1000000 ≤ p ∧ p ≤ 1000000) (ha : -1000000 ≤ a ∧ a ≤ 1000000) (hb : -1000000 ≤ b ∧ b ≤ 1000000) :
    Calls Try.prog 78 #[.func (.func 32) #[.pointer (some ⟨ge, 0, none⟩)] #[], .int .i64 p, .int .i64 a, .int .i64 b] w fun e w' => e = .returned (.tuple #[]) ∧ Enc w' Av base ge (s.adds (sumRows p a b)) ∧ Fr base ge w w' := by
  obtain ⟨hp1, hp2⟩ := hp
  obtain ⟨ha1, ha2⟩ := ha
  obtain ⟨hb1, hb2⟩ := hb
  have l1 := s.add_len [-p, a, b]
  have l2 := (s.add [-p, a, b]).add_len [-p, -a, -b]
  have l3 := ((s.add [-p, a, b]).add [-p, -a, -b]).add_len [p, -a, b]
  have L1 : (s.add [-p, a, b]).L.length ≤ 1000000 := by omega
  have L2 : ((s.add [-p, a, b]).add [-p, -a, -b]).L.length ≤ 1000000 := by omega
  have L3 : (((s.add [-p, a, b]).add [-p, -a, -b]).add [p, -a, b]).L.length ≤ 1000000 := by omega
  clear l1 l2 l3
  go_enter Try.func78, Try.ntmps78
  go_wp2_with fail
  refine (add_step _ Av hA base ge s [-p, a, b] _ _ rfl rfl h (by simp) (by omega)).mono ?_
  rintro e w1 ⟨rfl, h1, f1⟩
  have hA1 := fun k hk => hA k (Nat.le_trans f1.size hk)
  have HA1 := Lib.hid hA1
  clear hA1
  go_wp2_with fail
  refine (add_step _ Av HA1.out base ge _ [-p, -a, -b] _ _ rfl rfl h1 (by simp) L1).mono ?_
  rintro e w2 ⟨rfl, h2, f2⟩
  have HA2 := Lib.hid (fun k hk => HA1.out k (Nat.le_trans f2.size hk))
  go_wp2_with fail
  refine (add_step _ Av HA2.out base ge _ [p, -a, b] _ _ rfl rfl h2 (by simp) L2).mono ?_
  rintro e w3 ⟨rfl, h3, f3⟩
  have HA3 := Lib.hid (fun k hk => HA2.out k (Nat.le_trans f3.size hk))
  go_wp2_with fail
  refine (add_step _ Av HA3.out base ge _ [p, a, -b] _ _ rfl rfl h3 (by simp) L3).mono ?_
  rintro e w4 ⟨rfl, h4, f4⟩
  go_wp2
  go_end0
  exact ⟨rfl, h4, ((f1.trans f2).trans f3).trans f4⟩

set_option maxRecDepth 100000 in
set_option maxHeartbeats 1600000 in
theorem enc_choice (w : World) (Av : Nat → Prop) (hA : ∀ k, w.heap.size ≤ k → Av k) (base ge : Nat) (s : ES) (g a b c : Int) (h : Enc w Av base ge s) (hL : s.L.length ≤ 900000) (hp : -1000000 ≤ g ∧ g ≤ 1000000) (ha : -1000000 ≤ a ∧ a ≤ 1000000) (hb : -1000000 ≤ b ∧ b ≤ 1000000) (hc : -1000000 ≤ c ∧ c ≤ 1000000) :
    Calls Try.prog 61 #[.func (.func 32) #[.pointer (some ⟨ge, 0, none⟩)] #[], .int .i64 g, .int .i64 a, .int .i64 b, .int .i64 c] w fun e w' => e = .returned (.tuple #[]) ∧ Enc w' Av base ge (s.adds (choiceRows g a b c)) ∧ Fr base ge w w' := by
  obtain ⟨hp1, hp2⟩ := hp
  obtain ⟨ha1, ha2⟩ := ha
  obtain ⟨hb1, hb2⟩ := hb
  obtain ⟨hc1, hc2⟩ := hc
  have l1 := s.add_len [-g, -a, b]
  have l2 := (s.add [-g, -a, b]).add_len [-g, a, c]
  have l3 := ((s.add [-g, -a, b]).add [-g, a, c]).add_len [g, -a, -b]
  have L1 : (s.add [-g, -a, b]).L.length ≤ 1000000 := by omega
  have L2 : ((s.add [-g, -a, b]).add [-g, a, c]).L.length ≤ 1000000 := by omega
  have L3 : (((s.add [-g, -a, b]).add [-g, a, c]).add [g, -a, -b]).L.length ≤ 1000000 := by omega
  clear l1 l2 l3
  go_enter Try.func61, Try.ntmps61
  go_wp2_with fail
  refine (add_step _ Av hA base ge s [-g, -a, b] _ _ rfl rfl h (by simp) (by omega)).mono ?_
  rintro e w1 ⟨rfl, h1, f1⟩
  have hA1 := fun k hk => hA k (Nat.le_trans f1.size hk)
  have HA1 := Lib.hid hA1
  clear hA1
  go_wp2_with fail
  refine (add_step _ Av HA1.out base ge _ [-g, a, c] _ _ rfl rfl h1 (by simp) L1).mono ?_
  rintro e w2 ⟨rfl, h2, f2⟩
  have HA2 := Lib.hid (fun k hk => HA1.out k (Nat.le_trans f2.size hk))
  go_wp2_with fail
  refine (add_step _ Av HA2.out base ge _ [g, -a, -b] _ _ rfl rfl h2 (by simp) L2).mono ?_
  rintro e w3 ⟨rfl, h3, f3⟩
  have HA3 := Lib.hid (fun k hk => HA2.out k (Nat.le_trans f3.size hk))
  go_wp2_with fail
  refine (add_step _ Av HA3.out base ge _ [g, a, -c] _ _ rfl rfl h3 (by simp) L3).mono ?_
  rintro e w4 ⟨rfl, h4, f4⟩
  go_wp2
  go_end0
  exact ⟨rfl, h4, ((f1.trans f2).trans f3).trans f4⟩
end Go.Proofs.Ytlifakbdgmdafaa
