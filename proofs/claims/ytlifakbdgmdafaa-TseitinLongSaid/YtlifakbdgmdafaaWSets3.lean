/-
  What the reference's functions on sets compute (censusref03), by a list of 129 marks.
-/
import Derived.Test.YtlifakbdgmdafaaWSets2
namespace Go.Proofs.Ytlifakbdgmdafaa
open Go Go.RowKit

def boolCells (m : List Bool) : Array Value := (m.map Value.bool).toArray
theorem boolCells_get (m : List Bool) (i : Nat) (h : i < m.length) : (boolCells m)[i]? = some (.bool m[i]) := by
  unfold boolCells; simp [h]
theorem boolCells_set (m : List Bool) (i : Nat) (b : Bool) : (boolCells m).setIfInBounds i (.bool b) = boolCells (m.set i b) := by
  unfold boolCells; rw [List.setIfInBounds_toArray, List.map_set]
theorem boolCells_V {w : World} {g : Nat} {m : List Bool} (h : Blk w g 4 (boolCells m)) (hm : m.length ≤ maxLen) : BoolsV w w.heap.size (.slice (some ⟨g, 0, none⟩) m.length m.length) m := by
  refine ⟨_, _, rfl, Nat.le_refl _, hm, fun _ => ⟨g, 0, h.lt, rfl, fun i x hx => ?_⟩⟩
  obtain ⟨hi, rfl⟩ := List.getElem?_eq_some_iff.1 hx
  show w.cell? _ = _
  rw [show (0 + i * 1) = i from by omega, h.cell i, boolCells_get m i hi]

theorem ref03_none (w : World) :
    Calls Try.prog 45 #[] w fun e w' => e = .returned (.slice (some ⟨w.heap.size, 0, none⟩) 129 129) ∧ w.alloc (.cells (boolCells (List.replicate 129 false)) 4) = w' := by
  have hmk : ∀ w, (Instr.makeSlice 61 (.int .i64 129) (.int .i64 129)).run Try.prog w = .ok (.slice (some ⟨w.heap.size, 0, none⟩) 129 129) (w.alloc (.cells (boolCells (List.replicate 129 false)) 4)) := fun _ => by kernel_rfl
  go_enter Try.func45, Try.ntmps45
  go_wp2
  go_ret
  exact ⟨rfl, rfl⟩

/-- The set that 129 marks stand for. -/
theorem markTo_of (m : List Bool) (hm : m.length = 129) (s : VS) (h : ∀ u : Nat, 1 ≤ u → u < 129 → m.getD u false = s.has u) : markTo m m.length = s := by
  apply VS.ext_has
  intro v h1 h2
  rw [has_markTo _ _ v h1 h2, hm, show decide (v < ((129 : Nat) : Int)) = true from by simp; omega, h v.toNat (by omega) (by omega)]
  rw [show ((v.toNat : Nat) : Int) = v from by omega]; rfl

set_option maxRecDepth 100000 in
set_option maxHeartbeats 1600000 in
theorem ref03_of (w : World) (B : Nat) (v : Value) (l : List Int) (hB : B ≤ w.heap.size) (hl : IntsV w B v l) :
    Calls Try.prog 54 #[v] w fun e w' => e = .returned (.agg #[.int .u64 ((VS.ofList l).a.toNat : Int), .int .u64 ((VS.ofList l).b.toNat : Int)]) ∧ Below w.heap.size w w' := by
  obtain ⟨A, c, rfl, hlc, hcm, _⟩ := id hl
  unfold maxLen at hcm
  go_enter Try.func54, Try.ntmps54
  go_wp2_with (go_at_call 45; refine (ref03_none _).mono ?_; rintro e w' ⟨rfl, rfl⟩)
  go_loopw [4] (fun i wr => ∃ (k : Nat) (m : List Bool), k ≤ l.length ∧ i = .int .i64 k ∧ Blk wr w.heap.size 38 #[.int .u64 0, .int .u64 0] ∧ Blk wr (w.heap.size + 1) 4 (boolCells m) ∧
      m.length = 129 ∧ (∀ u : Nat, 1 ≤ u → u < 129 → m.getD u false = (l.take k).contains (u : Int)) ∧ Below w.heap.size w wr) (fun i _ => l.length - (intOf i).toNat)
  case atStart =>
    refine ⟨0, List.replicate 129 false, by omega, rfl, (Blk.new _ _ _).alloc _, Blk.new_ (by simp), by simp, fun u _ hu => ?_, by go_grown⟩
    rw [List.take_zero, List.getD_eq_getElem?_getD, List.getElem?_replicate]; simp [hu]
  case round =>
    obtain ⟨k, m, hk, rfl, hb0, hb1, hm, hmk, hb⟩ := hrel
    have HM := Lib.hid hm
    have hm1 : m.length ≤ 129 := by omega
    have hm2 : 129 ≤ m.length := by omega
    have HK := Lib.hid hmk
    clear hm hmk
    have d0 := hb0.cell 0
    have d1 := hb0.cell 1
    have e0 := hb0.free 0
    have e1 := hb0.free 1
    simp at d0 d1
    have lt1 := hb1.lt
    have lt0 := hb0.lt
    by_cases hlt : k < l.length
    · obtain ⟨b, o, rfl, hbB, hcell⟩ := hl.at_ (hb.mono hB) hlt
      have htk : l.take (k + 1) = l.take k ++ [l[k]] := by rw [List.take_succ_eq_append_getElem hlt]
      have HT := Lib.hid htk
      clear htk
      generalize hx : l[k] = x at hcell HT
      have HX := Lib.hid hx
      clear hx
      have step0 : ∀ u : Nat, 1 ≤ u → u < 129 → (x < 1 ∨ 128 < x) → m.getD u false = (l.take (k + 1)).contains (u : Int) := fun u h1 h2 hx => by
        rw [HK.out u h1 h2, HT.out, List.contains_append]
        simp; omega
      have step1 : ∀ u : Nat, 1 ≤ u → u < 129 → 1 ≤ x → x ≤ 128 → (m.set x.toNat true).getD u false = (l.take (k + 1)).contains (u : Int) := fun u h1 h2 h3 h4 => by
        rw [HT.out, List.contains_append, ← HK.out u h1 h2, List.getD_eq_getElem?_getD, List.getD_eq_getElem?_getD, List.getElem?_set]
        by_cases e : x.toNat = u
        · rw [if_pos e, if_pos (by omega)]; simp; omega
        · rw [if_neg e]; simp; omega
      have HS0 := Lib.hid step0
      have HS1 := Lib.hid step1
      clear step0 step1
      by_cases h1 : 1 ≤ x
      · by_cases h2 : x ≤ 128
        · have xt : x.toNat < m.length := by omega
          have cx := hb1.cell x.toNat
          have fx := hb1.free x.toNat
          rw [boolCells_get m _ xt] at cx
          have hge : (decide (1 ≤ x)) = true := by simp [h1]
          go_wp2
          go_roundw
          case rel => exact ⟨k + 1, m.set x.toNat true, by omega, by go_num, hb0.far (by simp) _, by rw [← boolCells_set]; exact hb1.put _ _, by simp; exact HM.out, fun u h3 h4 => HS1.out u h3 h4 h1 h2, hb.setCell (by simp) _⟩
          case measure => simp [intOf]; omega
        · go_wp2
          go_roundw
          case rel => exact ⟨k + 1, m, by omega, by go_num, hb0, hb1, HM.out, fun u h3 h4 => HS0.out u h3 h4 (by omega), hb⟩
          case measure => simp [intOf]; omega
      · have h1' : decide (1 ≤ x) = false := by simp; omega
        go_wp2
        go_roundw
        case rel => exact ⟨k + 1, m, by omega, by go_num, hb0, hb1, HM.out, fun u h3 h4 => HS0.out u h3 h4 (by omega), hb⟩
        case measure => simp [intOf]; omega
    · have hkl : k = l.length := by omega
      subst hkl
      have hset := markTo_of m HM.out (VS.ofList l) (fun u h1 h2 => by rw [HK.out u h1 h2, List.take_length, VS.has_ofList l u (by omega) (by omega)])
      have HSET := Lib.hid hset
      clear hset
      have hv := boolCells_V hb1 (by unfold maxLen; omega)
      rw [HM.out] at hv
      go_wp2_with (go_at_call 46; refine (ref03_set _ _ _ m (Nat.le_refl _) hv HM.out).mono ?_; rintro e w' ⟨rfl, hbb⟩; obtain ⟨hc, hf⟩ := bcell hbb; have hsz := hbb.size)
      refine bodyPost_ret (v := (.agg #[.int .u64 ((markTo m m.length).a.toNat : Int), .int .u64 ((markTo m m.length).b.toNat : Int)])) (by simp [results, Try.results54, go_sem, d0, d1, lt0, hc]) rfl ?_
      rw [HSET.out]
      exact ⟨rfl, ((hb.trans (hbb.mono hb.size)).setCell (by simp) _).setCell (by simp) _⟩
end Go.Proofs.Ytlifakbdgmdafaa
