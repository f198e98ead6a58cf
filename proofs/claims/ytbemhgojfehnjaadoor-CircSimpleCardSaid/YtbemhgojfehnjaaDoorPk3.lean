/-
  Lemmas and contracts, joined: Key Fold0 Append KeyE Folder Post Open Post2 Laid KeyW InsCi Ckey Ca Cfind Fold1 Cnot.
-/
import Derived.Test.YtbemhgojfehnjaaDoorPk1
import Derived.Lib.ItoaNum
import Derived.Shelf.LaysM
import Derived.Shelf.Strconv.AppendIntPublic10
import Derived.Test.YtbemhgojfehnjaaDoorRows
import Derived.Test.YtbemhgojfehnjaaDoorPk2
import Derived.Lib.ItoaLen
import Derived.Laws.IdiomStrings
import Derived.WalkKit
import Derived.ProofKit
import Derived.OpenShut
import Derived.Below
import Derived.ChangeSame
import Derived.Carry
import Derived.Deep.Slices
import Derived.Deep.Fields
import Derived.Lib.SmallJoins
import Derived.DataReads
import Derived.Test.YtbemhgojfehnjaaDoorCards
import Derived.Test.YtbemhgojfehnjaaDoorTie
import Derived.Lib.LaidU8
import Derived.LaidMore
import Derived.Lay
import Derived.Stop.Joined
namespace Go.Proofs.YtbemhgojfehnjaaDoor
open Go

/-- The number that digits stand for. -/
def digVal (l : List UInt8) : Nat := l.foldl (fun n d => 10 * n + (d.toNat - 48)) 0
theorem digVal_snoc (l : List UInt8) (d : UInt8) : digVal (l ++ [d]) = 10 * digVal l + (d.toNat - 48) := by
  unfold digVal; rw [List.foldl_append]; rfl
theorem dig_nat (u : Nat) (h : u < 10) : (UInt8.ofNat (48 + u)).toNat = 48 + u := by
  simp only [UInt8.toNat_ofNat']; omega
theorem digVal_dec (u : Nat) : digVal (Lib.decDigits u) = u := by
  induction u using Nat.strongRecOn with
  | _ u ih =>
    rw [Lib.decDigits]
    split
    · rename_i h
      show 10 * 0 + ((UInt8.ofNat (48 + u)).toNat - 48) = u
      rw [dig_nat u h]; omega
    · rename_i h
      rw [digVal_snoc, ih _ (by omega), dig_nat _ (by omega)]; omega
theorem dec_range (u : Nat) : ∀ x ∈ Lib.decDigits u, 48 ≤ x.toNat ∧ x.toNat < 58 := by
  induction u using Nat.strongRecOn with
  | _ u ih =>
    intro x hx
    rw [Lib.decDigits] at hx
    split at hx
    · rename_i h
      simp only [List.mem_singleton] at hx
      subst hx
      rw [dig_nat u h]; omega
    · rename_i h
      rcases List.mem_append.1 hx with hx | hx
      · exact ih _ (by omega) x hx
      · simp only [List.mem_singleton] at hx
        subst hx
        rw [dig_nat _ (by omega)]; omega
theorem dec_inj {u v : Nat} (h : Lib.decDigits u = Lib.decDigits v) : u = v := by
  rw [← digVal_dec u, ← digVal_dec v, h]
theorem itoa_inj {a b : Int} (h : Lib.itoa a = Lib.itoa b) : a = b := by
  unfold Lib.itoa at h
  split at h
  · split at h
    · injection h with _ h
      have := dec_inj h; omega
    · have := dec_range b.toNat 45 (by rw [← h]; simp)
      exact absurd this (by decide)
  · split at h
    · have := dec_range a.toNat 45 (by rw [h]; simp)
      exact absurd this (by decide)
    · have := dec_inj h; omega
def noSp (l : List UInt8) : Prop := ∀ x ∈ l, x ≠ 32
theorem itoa_noSp (a : Int) : noSp (Lib.itoa a) := by
  intro x hx he
  subst he
  unfold Lib.itoa at hx
  split at hx
  · rcases List.mem_cons.1 hx with hx | hx
    · revert hx; decide
    · exact absurd (dec_range _ _ hx) (by decide)
  · exact absurd (dec_range _ _ hx) (by decide)
/-- Nothing, or what begins with a blank. -/
def spAhead (l : List UInt8) : Prop := l = [] ∨ ∃ r, l = 32 :: r
theorem split_sp : ∀ {a b r s : List UInt8}, noSp a → noSp b → spAhead r → spAhead s → a ++ r = b ++ s → a = b ∧ r = s
  | [], [], _, _, _, _, _, _, h => ⟨rfl, h⟩
  | [], y :: b, r, s, _, hb, hr, _, h => by
    rcases hr with rfl | ⟨r', rfl⟩
    · cases h
    · injection h with h1 _
      exact absurd h1.symm (hb y (by simp))
  | x :: a, [], r, s, ha, _, _, hs, h => by
    rcases hs with rfl | ⟨s', rfl⟩
    · cases h
    · injection h with h1 _
      exact absurd h1 (ha x (by simp))
  | x :: a, y :: b, r, s, ha, hb, hr, hs, h => by
    injection h with h1 h2
    obtain ⟨h3, h4⟩ := split_sp (fun z hz => ha z (by simp [hz])) (fun z hz => hb z (by simp [hz])) hr hs h2
    exact ⟨by rw [h1, h3], h4⟩
def keyIn (l : List Int) : List UInt8 := l.flatMap fun k => 32 :: Lib.itoa k
theorem keyIn_sp (l : List Int) : spAhead (keyIn l) := by
  cases l with
  | nil => exact .inl rfl
  | cons x l => exact .inr ⟨_, rfl⟩
theorem keyIn_inj : ∀ {l m : List Int}, keyIn l = keyIn m → l = m
  | [], [], _ => rfl
  | [], _ :: _, h => by cases h
  | _ :: _, [], h => by cases h
  | x :: l, y :: m, h => by
    have h' : Lib.itoa x ++ keyIn l = Lib.itoa y ++ keyIn m := by
      injection h
    obtain ⟨h1, h2⟩ := split_sp (itoa_noSp x) (itoa_noSp y) (keyIn_sp l) (keyIn_sp m) h'
    rw [itoa_inj h1, keyIn_inj h2]
def keyOf (g : Gate) : List UInt8 := Lib.itoa g.kind ++ 32 :: (Lib.itoa g.lit ++ keyIn g.inp)
theorem keyOf_inj {g h : Gate} (e : keyOf g = keyOf h) : g = h := by
  obtain ⟨h1, h2⟩ := split_sp (itoa_noSp _) (itoa_noSp _) (.inr ⟨_, rfl⟩) (.inr ⟨_, rfl⟩) e
  injection h2 with _ h2
  obtain ⟨h3, h4⟩ := split_sp (itoa_noSp _) (itoa_noSp _) (keyIn_sp _) (keyIn_sp _) h2
  cases g; cases h
  simp only [Gate.mk.injEq]
  exact ⟨itoa_inj h1, itoa_inj h3, keyIn_inj h4⟩
theorem keyIn_snoc (l : List Int) (x : Int) : keyIn (l ++ [x]) = keyIn l ++ (32 :: Lib.itoa x) := by
  unfold keyIn; simp
end Go.Proofs.YtbemhgojfehnjaaDoor
namespace Go.Proofs.YtbemhgojfehnjaaDoor
open Go

instance gateDec : DecidableEq Gate := fun a b => decidable_of_iff (a.kind = b.kind ∧ a.lit = b.lit ∧ a.inp = b.inp) (by cases a; cases b; simp)
/-- Where a gate stands first. -/
def gidx (g : Gate) : List Gate → Nat → Option Nat
  | [], _ => none
  | h :: l, i => if g = h then some i else gidx g l (i + 1)
def findG (L : List Gate) (g : Gate) : List Gate × Int := match gidx g L 0 with
  | some i => (L, (i : Int))
  | none => (L ++ [g], (L.length : Int))
def gateAt (L : List Gate) (i : Int) : Gate := L.getD i.toNat ⟨0, 0, []⟩
def kindAt (L : List Gate) (i : Int) : Int := (gateAt L i).kind
def notG (L : List Gate) (i : Int) : List Gate × Int :=
  let g := gateAt L i
  if g.kind = 0 then findG L ⟨1, 0, []⟩ else if g.kind = 1 then findG L ⟨0, 0, []⟩ else if g.kind = 2 then findG L ⟨2, -g.lit, []⟩
  else if g.kind = 3 then (L, g.inp.getD 0 0) else findG L ⟨3, 0, [i]⟩
/-- The inputs that are left, or the one that decides. -/
def manyGo (L : List Gate) (neutral decides : Int) : List Int → List Int → Int ⊕ List Int
  | [], left => .inr left
  | i :: r, left => if kindAt L i = decides then .inl i else if kindAt L i ≠ neutral ∧ i ∉ left then manyGo L neutral decides r (left ++ [i]) else manyGo L neutral decides r left
def manyG (L : List Gate) (kind : Int) (ins : List Int) : List Gate × Int :=
  let neutral : Int := if kind = 5 then 0 else 1
  let decides : Int := if kind = 5 then 1 else 0
  match manyGo L neutral decides ins [] with
  | .inl i => (L, i)
  | .inr [] => findG L ⟨neutral, 0, []⟩
  | .inr [x] => (L, x)
  | .inr left => findG L ⟨kind, 0, left⟩
/-- Whether a number stands an odd number of times in a list. -/
def oddIn (x : Int) : List Int → Bool
  | [] => false
  | y :: l => (decide (x = y)) != oddIn x l
/-- The gates that stand an odd number of times, each once, but for constants; the last constant gate that is true, or -1. -/
def xorGo (L : List Gate) (odd : Int → Bool) : List Int → List Int → Int → List Int × Int
  | [], left, last => (left, last)
  | i :: r, left, last =>
    if odd i = false ∨ kindAt L i = 0 then xorGo L odd r left last
    else if kindAt L i = 1 then xorGo L (fun x => if x = i then false else odd x) r left i
    else xorGo L (fun x => if x = i then false else odd x) r (left ++ [i]) last
def xorG (L : List Gate) (ins : List Int) : List Gate × Int :=
  match xorGo L (fun x => oddIn x ins) ins [] (-1) with
  | ([], last) => if last < 0 then findG L ⟨0, 0, []⟩ else (L, last)
  | ([x], last) => if last < 0 then (L, x) else notG L x
  | (left, last) => if 0 ≤ last then findG L ⟨6, 0, left ++ [last]⟩ else findG L ⟨6, 0, left⟩
def iffG (L : List Gate) (a b : Int) : List Gate × Int :=
  if a = b then findG L ⟨1, 0, []⟩ else if kindAt L a = 1 then (L, b) else if kindAt L b = 1 then (L, a) else if kindAt L a = 0 then notG L b else if kindAt L b = 0 then notG L a
  else findG L ⟨7, 0, [a, b]⟩
def chooseG (L : List Gate) (a b c : Int) : List Gate × Int :=
  if kindAt L a = 1 then (L, b) else if kindAt L a = 0 ∨ b = c then (L, c) else if kindAt L b = 1 ∧ kindAt L c = 0 then (L, a) else if kindAt L b = 0 ∧ kindAt L c = 1 then notG L a
  else findG L ⟨8, 0, [a, b, c]⟩
/-- One gate, whose inputs were found already. -/
def stepG (L : List Gate) (g : Gate) (ins : List Int) : List Gate × Int :=
  if g.kind = 3 then notG L (ins.getD 0 0) else if g.kind = 4 ∨ g.kind = 5 then manyG L g.kind ins else if g.kind = 6 then xorG L ins
  else if g.kind = 7 then iffG L (ins.getD 0 0) (ins.getD 1 0) else if g.kind = 8 then chooseG L (ins.getD 0 0) (ins.getD 1 0) (ins.getD 2 0)
  else findG L ⟨g.kind, g.lit, []⟩
def foldGo : List Gate → List Gate × List Int → List Gate × List Int
  | [], s => s
  | g :: r, (L, found) => let q := stepG L g (g.inp.map fun k => found.getD k.toNat 0)
    foldGo r (q.1, found ++ [q.2])
/-! What is needed, renumbered. -/
def markIn (use : List Bool) (l : List Int) : List Bool := l.foldl (fun u k => u.set k.toNat true) use
/-- From gate i - 1 downwards. -/
def useGo (L : List Gate) : Nat → List Bool → List Bool
  | 0, u => u
  | i + 1, u => useGo L i (if u.getD i false then markIn u (gateAt L i).inp else u)
def useOf (L : List Gate) (root : Nat) : List Bool := useGo L (root + 1) ((List.replicate (root + 1) false).set root true)
def placeGo (use : List Bool) : List Gate → Nat → List Gate × List Int → List Gate × List Int
  | [], _, s => s
  | g :: r, i, (out, place) => if use.getD i false then placeGo use r (i + 1) (out ++ [⟨g.kind, g.lit, g.inp.map fun k => place.getD k.toNat 0⟩], place.set i (out.length : Int)) else placeGo use r (i + 1) (out, place)
def neededG (L : List Gate) (root : Int) : List Gate := (placeGo (useOf L root.toNat) (L.take (root.toNat + 1)) 0 ([], List.replicate (root.toNat + 1) 0)).1
def foldOf (gs : List Gate) : List Gate := let s := foldGo gs ([], []); neededG s.1 (s.2.getD (s.2.length - 1) 0)
end Go.Proofs.YtbemhgojfehnjaaDoor
namespace Go.Proofs
open Go.Shelf
def Tryd.laysM176_ren : Go.Shelf.Ren := ⟨fun | 176 => 87 | 249 => 88 | 288 => 89 | 283 => 90 | 284 => 91 | 285 => 92 | 286 => 93 | 129 => 95 | 317 => 94 | 318 => 96 | 319 => 97 | 320 => 98 | 337 => 99 | 338 => 100 | n => n, fun | 37 => 92 | 2 => 2 | 3 => 3 | 53 => 25 | 4 => 4 | 9 => 9 | 171 => 96 | 0 => 0 | 173 => 99 | 212 => 102 | 51 => 103 | 5 => 5 | 20 => 20 | 213 => 104 | 46 => 48 | 232 => 107 | 233 => 108 | n => n, fun | 17 => 0 | 18 => 1 | 19 => 2 | n => n⟩
theorem Tryd.laysM176 : Go.Proofs.LaysM.n176 Tryd.prog Tryd.laysM176_ren := {
  mixed := by kernel_rfl
  f129 := Tryd.func95.trans (congrArg some (by kernel_rfl))
  f176 := Tryd.func87.trans (congrArg some (by kernel_rfl))
  f249 := Tryd.func88.trans (congrArg some (by kernel_rfl))
  f283 := Tryd.func90.trans (congrArg some (by kernel_rfl))
  f284 := Tryd.func91.trans (congrArg some (by kernel_rfl))
  f285 := Tryd.func92.trans (congrArg some (by kernel_rfl))
  f286 := Tryd.func93.trans (congrArg some (by kernel_rfl))
  f288 := Tryd.func89.trans (congrArg some (by kernel_rfl))
  f317 := Tryd.func94.trans (congrArg some (by kernel_rfl))
  f318 := Tryd.func96.trans (congrArg some (by kernel_rfl))
  f319 := Tryd.func97.trans (congrArg some (by kernel_rfl))
  f320 := Tryd.func98.trans (congrArg some (by kernel_rfl))
  f337 := Tryd.func99.trans (congrArg some (by kernel_rfl))
  f338 := Tryd.func100.trans (congrArg some (by kernel_rfl))
  t0 := Tryd.underlying0
  a0 := Tryd.isAgg0
  z0 := Tryd.sizeOf0
  v0 := Tryd.zeroValue0
  t2 := Tryd.underlying2
  a2 := Tryd.isAgg2
  z2 := Tryd.sizeOf2
  v2 := Tryd.zeroValue2
  t3 := Tryd.underlying3
  a3 := Tryd.isAgg3
  z3 := Tryd.sizeOf3
  v3 := Tryd.zeroValue3
  t4 := Tryd.underlying4
  a4 := Tryd.isAgg4
  z4 := Tryd.sizeOf4
  v4 := Tryd.zeroValue4
  t5 := Tryd.underlying5
  a5 := Tryd.isAgg5
  z5 := Tryd.sizeOf5
  v5 := Tryd.zeroValue5
  t9 := Tryd.underlying9
  a9 := Tryd.isAgg9
  z9 := Tryd.sizeOf9
  v9 := Tryd.zeroValue9
  t20 := Tryd.underlying20
  a20 := Tryd.isAgg20
  z20 := Tryd.sizeOf20
  v20 := Tryd.zeroValue20
  t37 := Tryd.underlying92
  a37 := Tryd.isAgg92
  z37 := Tryd.sizeOf92
  v37 := Tryd.zeroValue92
  t46 := Tryd.underlying48
  a46 := Tryd.isAgg48
  z46 := Tryd.sizeOf48
  v46 := Tryd.zeroValue48
  t51 := Tryd.underlying103
  a51 := Tryd.isAgg103
  z51 := Tryd.sizeOf103
  v51 := Tryd.zeroValue103
  t53 := Tryd.underlying25
  a53 := Tryd.isAgg25
  z53 := Tryd.sizeOf25
  v53 := Tryd.zeroValue25
  t171 := Tryd.underlying96
  a171 := Tryd.isAgg96
  z171 := Tryd.sizeOf96
  v171 := Tryd.zeroValue96
  t173 := Tryd.underlying99
  a173 := Tryd.isAgg99
  z173 := Tryd.sizeOf99
  v173 := Tryd.zeroValue99
  t212 := Tryd.underlying102
  a212 := Tryd.isAgg102
  z212 := Tryd.sizeOf102
  v212 := Tryd.zeroValue102
  t213 := Tryd.underlying104
  a213 := Tryd.isAgg104
  z213 := Tryd.sizeOf104
  t232 := Tryd.underlying107
  a232 := Tryd.isAgg107
  z232 := Tryd.sizeOf107
  v232 := Tryd.zeroValue107
  t233 := Tryd.underlying108
  a233 := Tryd.isAgg108
  z233 := Tryd.sizeOf108
  v233 := Tryd.zeroValue108
  g17 := by kernel_rfl
  g18 := by kernel_rfl
  g19 := by kernel_rfl
  i0 := by kernel_rfl
  i2 := by kernel_rfl
  i3 := by kernel_rfl
  i4 := by kernel_rfl
  i5 := by kernel_rfl
  i9 := by kernel_rfl
  i20 := by kernel_rfl
  i37 := by kernel_rfl
  i46 := by kernel_rfl
  i51 := by kernel_rfl
  i53 := by kernel_rfl
  i171 := by kernel_rfl
  i173 := by kernel_rfl
  i212 := by kernel_rfl
  i232 := by kernel_rfl
  i233 := by kernel_rfl
  m17 := by kernel_rfl
  m18 := by kernel_rfl
  m19 := by kernel_rfl }
end Go.Proofs
namespace Go.Proofs.YtbemhgojfehnjaaDoor
open Go Go.Shelf
/-- The name of the library's table, as the row has it. -/
def tabN : String := match (Rows.circEvalsRow.laid)[2]? with
  | some p => p.1
  | none => ""
end Go.Proofs.YtbemhgojfehnjaaDoor
namespace Go.Proofs
open Go.Shelf
theorem Tryd.append_int10 (B n : Nat) (i : Int) (h0 : -9223372036854775808 ≤ i) (h1 : i ≤ 9223372036854775807) (sv : Value) (xs : List Value) (w : World) (hown : w.ownsRow B 5 1 sv n xs) (hBw : B ≤ w.heap.size) (hlim : n + 21 ≤ 140737488355328)
    (htab : Lib.TabBelow Tryd.prog B w YtbemhgojfehnjaaDoor.tabN .u64 Lib.pow10Tab) :
    Calls Tryd.prog 87 #[sv, .int .i64 i, .int .i64 10] w fun e w' => ∃ v', e = .returned v' ∧ w'.ownsRow B 5 1 v' (n + (Lib.itoa i).length) (xs ++ Lib.byteCells (Lib.itoa i)) ∧ RowKit.Below B w w' ∧ Lib.OthersKept 5 none w w' := Any.strconv_AppendInt_10 Tryd.laysM176 B n i h0 h1 sv xs w hown hBw hlim htab
end Go.Proofs
namespace Go.Proofs.YtbemhgojfehnjaaDoor
open Go Go.RowKit

def OwnBytes (w : World) (base : Nat) (v : Value) (l : List UInt8) : Prop := w.ownsRow base 5 1 v l.length (Lib.byteCells l)
theorem OwnBytes.nil (w : World) (base : Nat) : OwnBytes w base (.slice none 0 0) [] := World.ownsRow_nil w base _ _
theorem OwnBytes.add {w : World} {base n : Nat} {v : Value} {l m : List UInt8} {xs : List Value} (h : w.ownsRow base 5 1 v n xs) (hn : n = (l ++ m).length) (hx : xs = Lib.byteCells (l ++ m)) : OwnBytes w base v (l ++ m) := by subst hn; subst hx; exact h
section
variable {ρ : Operand → Value} {d : Option Tmp} {x y z : Operand} {t : TypeId} {pos : String} {aft : Array Edge} {gd : Option (Nat × Bool)} {w : World}
theorem ex_byte32 (hx : ρ x = .int .u8 32) : (execOp ρ ⟨d, .buildSlice 92 1 #[(0, x)], t, pos, aft, gd⟩).run Tryd.prog w = .ok (.value (.slice (some ⟨w.heap.size, 0, none⟩) 1 1)) (w.alloc (.cells #[.int .u8 32] 5)) := by
  simp [go_sem, hx]
theorem ex_text {v : Value} {l : List UInt8} {base : Nat} (hx : ρ x = v) (h : OwnBytes w base v l) (hp : 0 < l.length) : (execOp ρ ⟨d, .convert 92 9 x, t, pos, aft, gd⟩).run Tryd.prog w = .ok (.value (.string ⟨l.toArray⟩)) w := by
  rcases h.2 with ⟨_, h0⟩ | ⟨g, cap, cur, rfl, _, _, _, _, _, _⟩
  · omega
  · have hcv := run_convert_bytes_back (P := Tryd.prog) w 92 9 5 ⟨g, 0, none⟩ cap l Tryd.underlying92 Tryd.underlying5 Tryd.underlying9 (fun j hj => h.cells (g := g) rfl j _ (by simp [Lib.byteCells, hj]))
    simp [go_sem, hx, hcv]
end
end Go.Proofs.YtbemhgojfehnjaaDoor
namespace Go.Proofs.YtbemhgojfehnjaaDoor
open Go Go.RowKit

def strE : ByteArray → Value := fun s => .string s
def intE : Int → Value := fun i => .int .i64 i
theorem ba_beq (a b : ByteArray) : (a == b) = decide (a = b) := by
  cases a with | mk a => cases b with | mk b =>
  have h1 : ((ByteArray.mk a) == (ByteArray.mk b)) = (a == b) := rfl
  rw [h1]
  by_cases h : a = b
  · subst h; simp
  · simp [h]
theorem strKey : Key strE .string := ⟨fun a b => by simp only [strE, Instr.sameNow, ba_beq], fun a => by simp [strE, MapKept.IsKey]⟩
theorem intKey : Key intE (.int .i64) := ⟨fun a b => by simp only [intE, Instr.sameNow, if_true]; congr 1, fun a => by simp [intE, MapKept.IsKey]⟩

/-- A slice of numbers, in the blocks of D. -/
def IntsD (D : Nat → Prop) (w : World) (v : Value) (xs : List Int) : Prop :=
  ∃ A c, v = .slice A xs.length c ∧ xs.length ≤ c ∧ c ≤ maxLen ∧ (0 < xs.length → ∃ b o, D b ∧ A = some ⟨b, o, none⟩ ∧ ∀ i x, xs[i]? = some x → w.cell? ⟨b, o + i, none⟩ = some (.int .i64 x))
theorem cell_move {w w' : World} {b o : Nat} (h : w'.heap[b]? = w.heap[b]?) : w'.cell? ⟨b, o, none⟩ = w.cell? ⟨b, o, none⟩ := by simp [World.cell?, h]
theorem IntsD.move {D : Nat → Prop} {w w' : World} {v : Value} {xs : List Int} (h : IntsD D w v xs) (hk : ∀ k, D k → w'.heap[k]? = w.heap[k]?) : IntsD D w' v xs := by
  obtain ⟨A, c, h1, h2, h3, h4⟩ := h
  refine ⟨A, c, h1, h2, h3, fun hp => ?_⟩
  obtain ⟨b, o, hb, hA, hc⟩ := h4 hp
  exact ⟨b, o, hb, hA, fun i x hx => (cell_move (hk b hb)).trans (hc i x hx)⟩
theorem IntsD.mono {D D' : Nat → Prop} {w : World} {v : Value} {xs : List Int} (h : IntsD D w v xs) (hD : ∀ k, D k → D' k) : IntsD D' w v xs := by
  obtain ⟨A, c, h1, h2, h3, h4⟩ := h
  refine ⟨A, c, h1, h2, h3, fun hp => ?_⟩
  obtain ⟨b, o, hb, hA, hc⟩ := h4 hp
  exact ⟨b, o, hD b hb, hA, hc⟩
theorem IntsD.V {D : Nat → Prop} {w : World} {v : Value} {xs : List Int} (h : IntsD D w v xs) {B : Nat} (hB : ∀ k, D k → k < B) : IntsV w B v xs := by
  obtain ⟨A, c, h1, h2, h3, h4⟩ := h
  refine ⟨A, c, h1, h2, h3, fun hp => ?_⟩
  obtain ⟨b, o, hb, hA, hc⟩ := h4 hp
  exact ⟨b, o, hB b hb, hA, fun i x hx => by rw [Nat.mul_one]; exact hc i x hx⟩
theorem IntsD.of_V {w : World} {B : Nat} {v : Value} {xs : List Int} (h : IntsV w B v xs) : IntsD (fun k => k < B) w v xs := by
  obtain ⟨A, c, h1, h2, h3, h4⟩ := h
  refine ⟨A, c, h1, h2, h3, fun hp => ?_⟩
  obtain ⟨b, o, hb, hA, hc⟩ := h4 hp
  exact ⟨b, o, hb, hA, fun i x hx => by have := hc i x hx; rw [Nat.mul_one] at this; exact this⟩
theorem IntsD.nil (D : Nat → Prop) (w : World) : IntsD D w (.slice none 0 0) [] := ⟨none, 0, rfl, Nat.le_refl _, Nat.zero_le _, fun h => absurd h (Nat.lt_irrefl _)⟩
/-- A row of numbers reads as a slice of numbers. -/
theorem IntsD.of_row {w : World} {base n : Nat} {T : TypeId} {v : Value} {l : List Int} (h : w.ownsRow base T 1 v n (l.map fun x => .int .i64 x)) : IntsD (fun k => v.ownBlock = some k) w v l := by
  have hn : n = l.length := by have := h.1; simpa using this.symm
  subst hn
  rcases h.2 with ⟨rfl, h0⟩ | ⟨g, cap, cur, rfl, _, hg, h1, h2, h3, h4⟩
  · have : l = [] := List.length_eq_zero_iff.1 h0
    subst this
    exact IntsD.nil _ _
  · refine ⟨_, cap, rfl, h1, h2, fun _ => ⟨g, 0, rfl, rfl, fun i x hx => ?_⟩⟩
    have hlt : i < l.length := (List.getElem?_eq_some_iff.1 hx).1
    rw [Nat.zero_add, cell_of_row w g i cur T (0, 0) hg]
    have : (cur.toList.take (l.length * 1))[i]? = some (.int .i64 x) := by rw [h4]; simp [hx]
    rw [List.getElem?_take_of_lt (by omega)] at this
    simpa using this
/-- A block of numbers does. -/
theorem IntsD.of_blk {w : World} {g n : Nat} {T : TypeId} {l : List Int} (h : Blk w g T (l.map fun x => .int .i64 x).toArray) (hn : n = l.length) (hm : n ≤ maxLen) : IntsD (fun k => k = g) w (.slice (some ⟨g, 0, none⟩) n n) l := by
  subst hn
  refine ⟨_, _, rfl, Nat.le_refl _, hm, fun _ => ⟨g, 0, rfl, rfl, fun i x hx => ?_⟩⟩
  rw [Nat.zero_add, h.cell i]
  simp [hx]
def gcell (g : Gate) (v : Value) : List Value := [.int .i64 g.kind, .int .i64 g.lit, v]
def gcells : List Gate → List Value → List Value
  | g :: L, v :: vs => gcell g v ++ gcells L vs
  | _, _ => []
theorem gcells_get : ∀ {L : List Gate} {vs : List Value} {i : Nat} {g : Gate} {v : Value}, L[i]? = some g → vs[i]? = some v →
    (gcells L vs)[i * 3]? = some (.int .i64 g.kind) ∧ (gcells L vs)[i * 3 + 1]? = some (.int .i64 g.lit) ∧ (gcells L vs)[i * 3 + 2]? = some v
  | [], _, _, _, _, h, _ => by simp at h
  | _ :: _, [], _, _, _, _, h => by simp at h
  | g' :: L, v' :: vs, 0, g, v, h, h' => by
    simp at h h'
    subst h h'
    exact ⟨rfl, rfl, rfl⟩
  | g' :: L, v' :: vs, i + 1, g, v, h, h' => by
    have := gcells_get (L := L) (vs := vs) (i := i) (g := g) (v := v) (by simpa using h) (by simpa using h')
    have e : ∀ k, (gcells (g' :: L) (v' :: vs))[(i + 1) * 3 + k]? = (gcells L vs)[i * 3 + k]? := fun k => by
      rw [show (i + 1) * 3 + k = (i * 3 + k) + 1 + 1 + 1 by omega]
      rfl
    have e0 := e 0
    simp only [Nat.add_zero] at e0
    rw [e0, e 1, e 2]
    exact this
theorem gcells_snoc (g : Gate) (v : Value) : ∀ (L : List Gate) (vs : List Value), L.length = vs.length → gcells (L ++ [g]) (vs ++ [v]) = gcells L vs ++ gcell g v
  | [], [], _ => rfl
  | [], _ :: _, h => by cases h
  | _ :: _, [], h => by cases h
  | g' :: L, v' :: vs, h => by
    show gcell g' v' ++ gcells (L ++ [g]) (vs ++ [v]) = (gcell g' v' ++ gcells L vs) ++ gcell g v
    rw [gcells_snoc g v L vs (by simpa using h), List.append_assoc]
def keyV (g : Gate) : ByteArray := ⟨(keyOf g).toArray⟩
theorem keyV_inj {g h : Gate} (e : keyV g = keyV h) : g = h := by
  unfold keyV at e
  injection e with e
  exact keyOf_inj (by simpa using congrArg Array.toList e)
def keysGo : List Gate → Nat → List (ByteArray × Value)
  | [], _ => []
  | g :: L, i => (keyV g, .int .i64 (i : Int)) :: keysGo L (i + 1)
theorem look_keys (g : Gate) : ∀ (L : List Gate) (j i : Nat), (look (keyV g) (keysGo L j) i).map (·.2) = (gidx g L j).map fun k => .int .i64 (k : Int)
  | [], _, _ => rfl
  | h :: L, j, i => by
    unfold keysGo look gidx
    by_cases e : g = h
    · subst e; simp
    · rw [if_neg (fun e' => e (keyV_inj e')), if_neg e]
      exact look_keys g L (j + 1) (i + 1)
theorem keysGo_snoc (g : Gate) : ∀ (L : List Gate) (j : Nat), keysGo (L ++ [g]) j = keysGo L j ++ [(keyV g, .int .i64 ((j + L.length : Nat) : Int))]
  | [], j => by simp [keysGo]
  | h :: L, j => by
    show _ :: keysGo (L ++ [g]) (j + 1) = _
    rw [keysGo_snoc g L (j + 1)]
    simp only [keysGo, List.cons_append, List.length_cons]
    rw [show j + 1 + L.length = j + (L.length + 1) by omega]
theorem gidx_lt {g : Gate} : ∀ {L : List Gate} {i k : Nat}, gidx g L i = some k → i ≤ k ∧ k < i + L.length ∧ L[k - i]? = some g
  | [], _, _, h => by cases h
  | h' :: L, i, k, h => by
    unfold gidx at h
    split at h
    · rename_i e
      injection h with h
      subst h e
      simp
    · obtain ⟨h1, h2, h3⟩ := gidx_lt h
      refine ⟨by omega, by simp; omega, ?_⟩
      rw [show k - i = (k - (i + 1)) + 1 by omega]
      simpa using h3
theorem keysGo_len : ∀ (L : List Gate) (j : Nat), (keysGo L j).length = L.length
  | [], _ => rfl
  | _ :: L, j => by simp [keysGo, keysGo_len L (j + 1)]
def Ins (D : Nat → Prop) (L : List Gate) (vs : List Value) (w : World) : Prop := L.length = vs.length ∧ ∀ (i : Nat) (g : Gate) (v : Value), L[i]? = some g → vs[i]? = some v → IntsD D w v g.inp
theorem Ins.move {D : Nat → Prop} {L : List Gate} {vs : List Value} {w w' : World} (h : Ins D L vs w) (hk : ∀ k, D k → w'.heap[k]? = w.heap[k]?) : Ins D L vs w' := ⟨h.1, fun i g v h1 h2 => (h.2 i g v h1 h2).move hk⟩
theorem Ins.snoc {D D2 : Nat → Prop} {L : List Gate} {vs : List Value} {w : World} (h : Ins D L vs w) {g : Gate} {v : Value} (hg : IntsD D2 w v g.inp) : Ins (fun k => D k ∨ D2 k) (L ++ [g]) (vs ++ [v]) w := by
  refine ⟨by simp [h.1], fun i g' v' h1 h2 => ?_⟩
  by_cases hi : i < L.length
  · rw [List.getElem?_append_left hi] at h1
    rw [List.getElem?_append_left (by rw [← h.1]; exact hi)] at h2
    exact (h.2 i g' v' h1 h2).mono (fun k q => .inl q)
  · rw [List.getElem?_append_right (by omega)] at h1
    rw [List.getElem?_append_right (by rw [← h.1]; omega)] at h2
    have e1 : i - L.length = 0 := by
      rcases Nat.eq_zero_or_pos (i - L.length) with q | q
      · exact q
      · rw [List.getElem?_eq_none (by simp; omega)] at h1; cases h1
    rw [e1] at h1
    rw [← h.1, e1] at h2
    simp at h1 h2
    subst h1 h2
    exact hg.mono (fun k q => .inr q)
theorem Ins.len {D : Nat → Prop} {L : List Gate} {vs : List Value} {w : World} (h : Ins D L vs w) : L.length = vs.length := h.1
/-- The table by which numbers are written. -/
def Tab (w : World) : Prop := Lib.TabIs Tryd.prog w tabN .u64 Lib.pow10Tab
theorem tab_g : ∃ g, Tryd.prog.globalNamed tabN = some g := ⟨0, by kernel_rfl⟩
def TabD (k : Nat) : Prop := Tryd.prog.globalNamed tabN = some k
theorem Tab.move {w w' : World} (h : Tab w) (hk : ∀ k, TabD k → w'.heap[k]? = w.heap[k]?) : Tab w' := by
  unfold Tab Lib.TabIs World.var? at *
  obtain ⟨g, hg⟩ := tab_g
  simp only [hg, Option.bind_some] at h ⊢
  rw [hk g hg]
  exact h
theorem Tab.lt {w : World} (h : Tab w) {k : Nat} (hk : TabD k) : k < w.heap.size := by
  unfold Tab Lib.TabIs World.var? at h
  unfold TabD at hk
  simp only [hk, Option.bind_some] at h
  rcases Nat.lt_or_ge k w.heap.size with h' | h'
  · exact h'
  · rw [Array.getElem?_eq_none h'] at h; simp at h
theorem Tab.below {w w' : World} (h : Tab w) {B : Nat} (hB : w.heap.size ≤ B) (hb : Below B w w') : Tab w' := h.move (fun k hk => hb.block k (Nat.lt_of_lt_of_le (h.lt hk) hB))
theorem Tab.tb {w : World} (h : Tab w) : Lib.TabBelow Tryd.prog w.heap.size w tabN .u64 Lib.pow10Tab := Lib.tabBelow_of_tabIs h
def tabE : En := .ro TabD Tab
theorem tabE_holds {w : World} (h : Tab w) : tabE.holds w := ⟨h, fun _ hk => h.lt hk, fun _ _ _ hk h => h.move hk⟩
def insE (D : Nat → Prop) (L : List Gate) (vs : List Value) : En := .ro D (Ins D L vs)
def inE (D : Nat → Prop) (v : Value) (l : List Int) : En := .ro D (fun w => IntsD D w v l)
theorem inE_holds {D : Nat → Prop} {v : Value} {l : List Int} {w : World} (h : IntsD D w v l) (hD : ∀ k, D k → k < w.heap.size) : (inE D v l).holds w := ⟨h, hD, fun _ _ _ hk h => h.move hk⟩
/-- The folder. -/
def foldE (f m : Nat) (R : Option Addr) (c : Nat) (D : Nat → Prop) (L : List Gate) (vs : List Value) : List En :=
  [.blk f 56 #[.slice R L.length c, .map (some m)], .map m (encL strE (keysGo L 0)), .row (.slice R L.length c) 38 3 L.length (gcells L vs), insE D L vs, tabE]
section
variable {Z : Bool → Nat → Prop} {w0 W : World} {rest : List En} {f m c : Nat} {R : Option Addr} {D D2 : Nat → Prop} {L : List Gate} {vs : List Value}
theorem rowcell {b T sz n c g : Nat} {xs : List Value} (h : W.ownsRow b T sz (.slice (some ⟨g, 0, none⟩) n c) n xs) {j : Nat} {v : Value} (hv : xs[j]? = some v) : W.cell? ⟨g, j, none⟩ = some v := by
  rcases h.2 with ⟨h1, _⟩ | ⟨g', cap, cur, h1, _, hg, _, _, _, h4⟩
  · cases h1
  · injection h1 with h1 _ _
    injection h1 with h1
    injection h1 with h1
    subst h1
    have hlt : j < xs.length := (List.getElem?_eq_some_iff.1 hv).1
    rw [cell_of_row W g j cur T (0, 0) hg]
    rw [← h4] at hv hlt
    have := List.length_take (l := cur.toList) (i := n * sz)
    rw [List.getElem?_take_of_lt (by omega)] at hv
    simpa using hv
theorem rowaddr {b T sz n c : Nat} {xs : List Value} (h : W.ownsRow b T sz (.slice R n c) n xs) (hn : 0 < n) : ∃ g, R = some ⟨g, 0, none⟩ := by
  rcases h.2 with ⟨_, h1⟩ | ⟨g', cap, cur, h1, _⟩
  · omega
  · injection h1 with h1 _ _
    exact ⟨g', h1⟩
/-- A gate of the folder, as it lies. -/
theorem fold_gate (hO : Own Z w0 W (foldE f m R c D L vs ++ rest)) {i : Nat} (hi : i < L.length) : ∃ g v, R = some ⟨g, 0, none⟩ ∧ g < W.heap.size ∧ vs[i]? = some v ∧ IntsD D W v L[i].inp ∧
    W.cell? ⟨g, i * 3, none⟩ = some (.int .i64 L[i].kind) ∧ W.cell? ⟨g, i * 3 + 1, none⟩ = some (.int .i64 L[i].lit) ∧ W.cell? ⟨g, i * 3 + 2, none⟩ = some v := by
  have hr := hO.row 2 rfl
  have hins : Ins D L vs W := hO.ro 3 rfl
  obtain ⟨g, rfl⟩ := rowaddr hr (by omega)
  have hi' : i < vs.length := by rw [← hins.1]; exact hi
  obtain ⟨h1, h2, h3⟩ := gcells_get (L := L) (vs := vs) (List.getElem?_eq_getElem hi) (List.getElem?_eq_getElem hi')
  exact ⟨g, vs[i], rfl, (World.ownsRow.lt hr g rfl).2, List.getElem?_eq_getElem hi', hins.2 i _ _ (List.getElem?_eq_getElem hi) (List.getElem?_eq_getElem hi'), rowcell hr h1, rowcell hr h2, rowcell hr h3⟩
theorem Blk.oldcell {w W : World} {g : Nat} {T : TypeId} {cs : Array Value} (h : Blk w g T cs) (hb : Below w.heap.size w W) (i : Nat) {v : Value} (hv : cs[i]? = some v) : W.cell? ⟨g, i, none⟩ = some v := (hb.cell (p := ⟨g, i, none⟩) h.lt).trans ((h.cell i).trans hv)
end
end Go.Proofs.YtbemhgojfehnjaaDoor
namespace Go.Proofs.YtbemhgojfehnjaaDoor
open Go.ChangeShapes Go.WideShapes Go.ChangeAt Go.RowKit

theorem law_post {H : Type} {enc : TypeId × Value → H} {P : Program} {f : Func} {s : ChangeSpec} {W W' : World} {args : Array Value} {v : Value} {ds gs : List (DataW H)} {before pa pv : List MemPlace}
    (hW : DataW.Whole enc P f.params.toList s.vars false W args.toList ds gs before)
    (hres : DataW.TrodAll enc P W' W.heap.size (fun _ => false) false f.resultTypes.toList (v.resultList f.resultTypes.size) (s.fn H (ds ++ gs)).results [])
    (hargs : ∀ sp : Nat → Bool, (∀ p ∈ before, sp p.block = true) → DataW.TrodAll enc P W' 0 sp true f.params.toList args.toList (s.fn H (ds ++ gs)).args pa)
    (hvars : ∀ sp : Nat → Bool, (∀ p ∈ before, sp p.block = true) → DataW.TrodVars enc P W' sp s.vars (s.fn H (ds ++ gs)).vars pv)
    (hps : before = pa ++ pv) (hb : Below W.heap.size W W') : s.post enc P f false true false false W args v W' := by
  have hin : ∀ p ∈ before, (fun b => decide (b < W.heap.size)) p.block = true := fun p hp => by simpa using hW.lt p hp
  refine ⟨ds, gs, before, [], pa, pv, hW, hres, hargs _ hin, hvars _ hin, World.keptBut_mono (fun p hp => ⟨hp, ?_⟩) (hb.frame (· ∈ before)), fun h => by cases h⟩
  rw [hps] at hp
  exact (List.mem_append.1 hp).elim (fun h => .inr (.inl h)) (fun h => .inr (.inr h))
end Go.Proofs.YtbemhgojfehnjaaDoor
namespace Go.Proofs.YtbemhgojfehnjaaDoor
open Go Go.RowKit Go.ChangeShapes Go.WideShapes Go.Deep Go.Joins

theorem laidOut : laidOutB Tryd.prog = true := by kernel_rfl

section
variable {H : Type} {enc : TypeId × Value → H} {W : World} {held : Bool}

theorem block_lt {a : Addr} {v : Value} (h : W.cell? a = some v) : a.block < W.heap.size := by
  unfold World.cell? at h
  split at h
  · rename_i he
    exact (Array.getElem?_eq_some_iff.1 he).1
  · cases h
theorem addr_eta {a : Addr} {v : Value} (h : W.cell? a = some v) : a = ⟨a.block, a.off, none⟩ := by
  have := World.cell?_spot h
  cases a; simp_all
theorem addr_add (b o j : Nat) : (⟨b, o, none⟩ : Addr).add j = ⟨b, o + j, none⟩ := by unfold Addr.add; split <;> simp_all

theorem open_intsV {fuel : Nat} {cs : List Value} {x : DataW H × List MemPlace} (h : DataW.trod enc Tryd.prog W 0 (fun _ => true) held fuel 36 cs = some x) :
    ∃ v xs, cs = [v] ∧ IntsV W W.heap.size v xs ∧ ∀ y ∈ xs, -9223372036854775808 ≤ y ∧ y ≤ 9223372036854775807 := by
  rcases open_ints Tryd.underlying36 Tryd.underlying3 (by kernel_rfl) h with ⟨rfl, rfl⟩ | ⟨a, len, cap, zs, rfl, _, hl, hm, hz, rfl, hc, hw⟩
  · exact ⟨_, [], rfl, ⟨none, 0, rfl, by simp, by unfold maxLen; omega, fun h => by simp at h⟩, by simp⟩
  · simp only [if_true] at hz
    have hlen : (zs.take len).length = len := by rw [List.length_take]; omega
    refine ⟨_, zs.take len, rfl, ⟨some a, cap, by rw [hlen], by rw [hlen]; exact hl, hm, fun hp => ?_⟩, fun y hy => ?_⟩
    · have h0 := hc 0 (by omega)
      have ha : a.add 0 = a := by simp [Addr.add]
      rw [ha] at h0
      have he := addr_eta h0
      refine ⟨a.block, a.off, block_lt h0, by rw [← he], fun i y hy => ?_⟩
      have hi : i < len := by
        have := (List.getElem?_eq_some_iff.1 hy).1
        omega
      have h1 := hc i (by omega)
      rw [he, addr_add] at h1
      rw [List.getElem?_take_of_lt hi] at hy
      rw [List.getD_eq_getElem?_getD, hy] at h1
      unfold IntAt
      simpa using h1
    · have := hw y (List.mem_of_mem_take hy)
      simp [Lit.wf] at this
      have e1 : IntKind.i64.min = -9223372036854775808 := rfl
      have e2 : IntKind.i64.max = 9223372036854775807 := rfl
      omega

theorem open_fields {t : TypeId} {fs : Array Field} {fuel : Nat} {cs : List Value} {x : DataW H × List MemPlace} (ht : Tryd.prog.underlying t = some (.struct fs)) (hone : oneCellFields Tryd.prog fs = true)
    (h : DataW.trod enc Tryd.prog W 0 (fun _ => true) held fuel t cs = some x) (hl : cs.length = fs.size) :
    ∀ (j : Nat) (f : Field), fs[j]? = some f → ∃ v n y, cs[j]? = some v ∧ DataW.trod enc Tryd.prog W 0 (fun _ => true) held n f.type [v] = some y := by
  obtain ⟨ys, n', hn', hy, hlen, hyl, hf⟩ := DataW.trod_struct ht h
  intro j f hj
  obtain ⟨ho, hk⟩ := hone_of hone j f hj
  have hjl : j < fs.size := (Array.getElem?_eq_some_iff.1 hj).1
  have h1 := hf j f hj
  rw [ho, hk] at h1
  have hone' : (cs.drop j).take 1 = [cs[j]'(by omega)] := by
    rw [List.drop_eq_getElem_cons (by omega)]
    rfl
  rw [hone'] at h1
  have hys : ys[j]? = some (ys[j]'(by omega)) := List.getElem?_eq_getElem (by omega)
  exact ⟨_, _, _, List.getElem?_eq_getElem (by omega), h1.trans hys⟩

theorem open_gate {fuel : Nat} {cs : List Value} {x : DataW H × List MemPlace} (hl : cs.length = 3) (h : DataW.trod enc Tryd.prog W 0 (fun _ => true) held fuel 38 cs = some x) :
    ∃ (g : Gate) (v : Value), cs = [.int .i64 g.kind, .int .i64 g.lit, v] ∧ IntsV W W.heap.size v g.inp := by
  have hf := open_fields Tryd.underlying38 (by kernel_rfl) h (by rw [hl]; rfl)
  obtain ⟨v0, n0, y0, c0, t0⟩ := hf 0 _ rfl
  obtain ⟨v1, n1, y1, c1, t1⟩ := hf 1 _ rfl
  obtain ⟨v2, n2, y2, c2, t2⟩ := hf 2 _ rfl
  obtain ⟨k, hk, _, _⟩ := DataW.trod_int Tryd.underlying3 t0
  obtain ⟨l, hl', _, _⟩ := DataW.trod_int Tryd.underlying3 t1
  obtain ⟨v, xs, hv, hI, _⟩ := open_intsV t2
  injection hk with hk _
  injection hl' with hl' _
  injection hv with hv _
  subst hk hl' hv
  refine ⟨⟨k, l, xs⟩, v2, ?_, hI⟩
  match cs, hl with
  | [a, b, c], _ => simp at c0 c1 c2; rw [c0, c1, c2]

theorem open_gatesV {fuel : Nat} {cs : List Value} {x : DataW H × List MemPlace} (h : DataW.trod enc Tryd.prog W 0 (fun _ => true) held fuel 22 cs = some x) :
    ∃ v gs, cs = [v] ∧ GatesV W W.heap.size v gs := by
  have hC : Tryd.prog.cellsOf 38 = 3 := by kernel_rfl
  rcases open_slice Tryd.underlying22 h with ⟨rfl, rfl⟩ | ⟨a, len, cap, m, n, D, Pl, rfl, hb, hl, hm, hmm, hx, hi⟩
  · exact ⟨_, [], rfl, ⟨none, 0, rfl, by simp, by unfold maxLen; omega, fun h => by simp at h⟩⟩
  · simp only [if_true] at hmm
    subst hmm
    rw [hC] at hi
    have each : ∀ i, i < m → ∃ g : Gate, GateAt W.heap.size W ⟨a.block, a.off + i * 3, none⟩ g ∧ (i = 0 → a = ⟨a.block, a.off, none⟩ ∧ a.block < W.heap.size) := fun i hlt => by
      obtain ⟨cs', hcs, ht⟩ := hi i hlt
      obtain ⟨_, hcl, hat⟩ := World.cells?_some hcs
      obtain ⟨g, v, rfl, hI⟩ := open_gate hcl ht
      have h0 := hat 0 (by omega)
      have h1 := hat 1 (by omega)
      have h2 := hat 2 (by omega)
      have he : a.add (i * 3) = ⟨a.block, a.off + i * 3, none⟩ := by
        unfold Addr.add at h0 ⊢
        split
        · rename_i hz
          rw [if_pos hz, if_pos rfl] at h0
          rw [hz]
          exact addr_eta h0
        · rfl
      rw [he] at h0 h1 h2
      rw [addr_add] at h0 h1 h2
      refine ⟨g, ⟨h0, h1, v, h2, hI⟩, fun e0 => ?_⟩
      subst e0
      have ha : a.add (0 * 3) = a := by simp [Addr.add]
      rw [ha] at he
      refine ⟨he, ?_⟩
      exact block_lt (a := ⟨a.block, a.off + 0 * 3 + 0, none⟩) h0
    have all : ∀ k, k ≤ len → ∃ gs : List Gate, gs.length = k ∧ ∀ i g, gs[i]? = some g → GateAt W.heap.size W ⟨a.block, a.off + i * 3, none⟩ g := by
      intro k
      induction k with
      | zero => exact fun _ => ⟨[], rfl, fun i g h => by simp at h⟩
      | succ k ih =>
        intro hk
        obtain ⟨gs, h1, h2⟩ := ih (by omega)
        obtain ⟨g, hg, _⟩ := each k (by omega)
        refine ⟨gs ++ [g], by simp [h1], fun i g' hi' => ?_⟩
        by_cases hlt : i < gs.length
        · rw [List.getElem?_append_left hlt] at hi'; exact h2 i g' hi'
        · have : i = k := by
            have := (List.getElem?_eq_some_iff.1 hi').1
            simp at this; omega
          subst this
          rw [List.getElem?_append_right (by omega), h1] at hi'
          simp at hi'
          subst hi'
          exact hg
    obtain ⟨gs, h1, h2⟩ := all len (Nat.le_refl _)
    subst h1
    refine ⟨_, gs, rfl, some a, m, rfl, hl, hm, fun hp => ?_⟩
    obtain ⟨_, _, h3⟩ := each 0 (by omega)
    obtain ⟨h4, h5⟩ := h3 rfl
    exact ⟨a.block, a.off, h5, by rw [← h4], h2⟩

set_option maxRecDepth 100000 in
theorem open_circuit {r : Reach} {b0 : Nat} {v : Value} {d : DataW H} {p : List MemPlace} (hv : Value.okWide Tryd.prog W r b0 24 v) (h : DataW.Trod enc Tryd.prog W 0 (fun _ => true) held 24 v d p) :
    ∃ (N : Int) (V : Value) (gs : List Gate), v = .agg #[.int .i64 N, V] ∧ GatesV W W.heap.size V gs ∧ -9223372036854775808 ≤ N ∧ N ≤ 9223372036854775807 := by
  obtain ⟨v0, v1, y0, y1, n, rfl, rfl, rfl, t0, t1⟩ := open_agg2 Tryd.underlying24 (by kernel_rfl) (by kernel_rfl) hv h
  obtain ⟨k, hk, _, hw⟩ := DataW.trod_int Tryd.underlying3 t0
  obtain ⟨V, gs, hV, hG⟩ := open_gatesV t1
  injection hk with hk _
  injection hV with hV _
  subst hk hV
  have hw' : -9223372036854775808 ≤ k ∧ k ≤ 9223372036854775807 := by
    simp [Lit.wf] at hw
    have e1 : IntKind.i64.min = -9223372036854775808 := rfl
    have e2 : IntKind.i64.max = 9223372036854775807 := rfl
    omega
  exact ⟨k, v1, gs, rfl, hG, hw'.1, hw'.2⟩

set_option maxRecDepth 100000 in
theorem okWide_arr {r : Reach} {b0 : Nat} {v : Value} {t e : TypeId} {n : Nat} (ht : Tryd.prog.underlying t = some (.array n e)) (h : Value.okWide Tryd.prog W r b0 t v) : ∃ cs, v = .agg cs ∧ cs.size = Tryd.prog.cellsOf t := by
  simp only [Value.okWide, ht] at h
  obtain ⟨cs, h1, h2, _⟩ := h
  exact ⟨cs, h1, h2⟩
set_option maxRecDepth 100000 in
theorem open_set {r : Reach} {b0 : Nat} {v : Value} {d : DataW H} {p : List MemPlace} (hv : Value.okWide Tryd.prog W r b0 27 v) (h : DataW.Trod enc Tryd.prog W 0 (fun _ => true) held 27 v d p) :
    ∃ s : VS, v = (.agg #[.int .u64 ((s).a.toNat : Int), .int .u64 ((s).b.toNat : Int)]) := by
  obtain ⟨cs, rfl, hsz⟩ := okWide_arr Tryd.underlying27 hv
  obtain ⟨fuel, hf⟩ := h
  obtain ⟨xs, m, _, _, hlen, hxl, hi⟩ := DataW.trod_array Tryd.underlying27 hf
  have hC : Tryd.prog.cellsOf 25 = 1 := by kernel_rfl
  have hC2 : Tryd.prog.cellsOf 27 = 2 := by kernel_rfl
  rw [hC2] at hsz
  obtain ⟨l⟩ := cs
  match l, hsz, xs, hxl with
  | [c0, c1], _, [y0, y1], _ =>
    have h0 := hi 0 (by omega)
    have h1 := hi 1 (by omega)
    rw [hC] at h0 h1
    simp [Value.cells] at h0 h1
    obtain ⟨a, ha, _, wa⟩ := DataW.trod_int Tryd.underlying25 h0
    obtain ⟨b, hb, _, wb⟩ := DataW.trod_int Tryd.underlying25 h1
    injection ha with ha _
    injection hb with hb _
    subst ha hb
    simp [Lit.wf] at wa wb
    have e1 : IntKind.u64.min = 0 := rfl
    have e2 : IntKind.u64.max = 18446744073709551615 := rfl
    refine ⟨⟨BitVec.ofNat 64 a.toNat, BitVec.ofNat 64 b.toNat⟩, ?_⟩
    have ea : ((BitVec.ofNat 64 a.toNat).toNat : Int) = a := by
      rw [BitVec.toNat_ofNat, Nat.mod_eq_of_lt (by omega)]; omega
    have eb : ((BitVec.ofNat 64 b.toNat).toNat : Int) = b := by
      rw [BitVec.toNat_ofNat, Nat.mod_eq_of_lt (by omega)]; omega
    simp only [ea, eb]
end
end Go.Proofs.YtbemhgojfehnjaaDoor
namespace Go.Proofs.YtbemhgojfehnjaaDoor
open Go Go.ChangeShapes Go.WideShapes Go.ChangeAt Go.RowKit

theorem carryAll {H : Type} {enc : TypeId × Value → H} {W W' : World} (hb : Below W.heap.size W W') : ∀ {ts : List TypeId} {vs : List Value} {ds : List (DataW H)} {ps : List MemPlace},
    DataW.TrodAll enc Tryd.prog W 0 (fun _ => true) true ts vs ds ps → (∀ x ∈ ps, x.block < W.heap.size) → ts.all (fun t => Tryd.prog.readableRec t && decide (t < Tryd.prog.types.size)) = true →
    DataW.TrodAll enc Tryd.prog W' 0 (fun b => decide (b < W.heap.size)) true ts vs ds ps := by
  intro ts
  induction ts with
  | nil =>
    intro vs ds ps h _ _
    obtain ⟨rfl, rfl, rfl⟩ := trodAll_nil h
    exact trodAll_mk0
  | cons t ts ih =>
    intro vs ds ps h hlt hts
    obtain ⟨v0, vs0, d0, ds0, p0, q0, rfl, rfl, rfl, h0, r0⟩ := trodAll_cons h
    simp only [List.all_cons, Bool.and_eq_true, decide_eq_true_eq] at hts
    exact trodAll_cons_mk (Below.trod laidOut hts.1.1 hts.1.2 h0 hb (fun x hx => hlt x (List.mem_append_left _ hx))) (ih r0 (fun x hx => hlt x (List.mem_append_right _ hx)) hts.2)

theorem law_post2 {H : Type} {enc : TypeId × Value → H} {f : Func} {s : ChangeSpec} {W W' : World} {args : Array Value} {v : Value} {ds : List (DataW H)} {p : List MemPlace} (hvars : s.vars = [])
    (hW : DataW.Whole enc Tryd.prog f.params.toList s.vars false W args.toList ds [] (p ++ []))
    (hA : DataW.TrodAll enc Tryd.prog W 0 (fun _ => true) true f.params.toList args.toList ds p)
    (hres : DataW.TrodAll enc Tryd.prog W' W.heap.size (fun _ => false) false f.resultTypes.toList (v.resultList f.resultTypes.size) (s.fn H (ds ++ [])).results [])
    (hfa : (s.fn H (ds ++ [])).args = ds) (hfv : (s.fn H (ds ++ [])).vars = []) (hts : f.params.toList.all (fun t => Tryd.prog.readableRec t && decide (t < Tryd.prog.types.size)) = true) (hb : Below W.heap.size W W') : s.post enc Tryd.prog f false true false false W args v W' := by
  have hlt : ∀ p' ∈ p ++ [], p'.block < W.heap.size := fun p' hp => hW.lt p' hp
  have hlt' : ∀ x ∈ p, x.block < W.heap.size := fun x hx => hlt x (by simpa using hx)
  have h2 := carryAll hb hA hlt' hts
  refine ⟨ds, [], p ++ [], [], p, [], hW, hres, ?_, ?_, World.keptBut_mono (fun p' hp => ⟨hp, .inr (.inl (by simpa using hp))⟩) (hb.frame (· ∈ p ++ [])), fun h => by cases h⟩
  · rw [hfa]; exact h2
  · rw [hfv, hvars]; rfl
end Go.Proofs.YtbemhgojfehnjaaDoor
namespace Go.Proofs.YtbemhgojfehnjaaDoor
open Go Go.ChangeShapes Go.WideShapes Go.ChangeAt Go.RowKit
def laidL : List (String × DataW Unit) := Rows.circEvalsRow.laid
theorem tab_laid {W : World} (h : laidMetH Tryd.prog laidL W) : Tab W := by
  rw [MakeChecks.laidMetH_plain _ _ _ (by kernel_rfl)] at h
  obtain ⟨g, t, cs, fuel, p, hg, ht, hv, hd⟩ := Lib.laidMet.reads (n := tabN) (d := Rows.laid_internal_strconv_uint64pow10) h (List.Mem.tail _ (List.Mem.tail _ (List.Mem.head _)))
  have h0 : Tryd.prog.globalNamed tabN = some 0 := by kernel_rfl
  obtain rfl := Option.some.inj (h0.symm.trans hg)
  have h1 : (Tryd.prog.globals[0]?).map (·.type) = some 102 := by kernel_rfl
  obtain rfl := Option.some.inj (h1.symm.trans ht)
  have hc := Lib.cells_of_tab (k := .u64) (zs := Lib.pow10Tab) Tryd.underlying102 Tryd.underlying25 (by kernel_rfl) (by kernel_rfl) hd
  unfold Tab Lib.TabIs
  rw [hv, ← hc]
end Go.Proofs.YtbemhgojfehnjaaDoor
namespace Go.Proofs.YtbemhgojfehnjaaDoor
open Go Go.RowKit
def smallI (x : Int) : Prop := -1000000 ≤ x ∧ x ≤ 1000000
def smallG (g : Gate) : Prop := smallI g.kind ∧ smallI g.lit ∧ (∀ x ∈ g.inp, smallI x) ∧ g.inp.length ≤ 1000000
def kl (g : Gate) (k : Nat) : List UInt8 := Lib.itoa g.kind ++ 32 :: (Lib.itoa g.lit ++ keyIn (g.inp.take k))
theorem kl_zero (g : Gate) : kl g 0 = (Lib.itoa g.kind ++ [32]) ++ Lib.itoa g.lit := by simp [kl, keyIn]
theorem kl_succ (g : Gate) {k : Nat} (h : k < g.inp.length) : kl g (k + 1) = (kl g k ++ [32]) ++ Lib.itoa g.inp[k] := by
  unfold kl
  rw [← List.take_append_getElem h, keyIn_snoc]
  simp
theorem kl_full (g : Gate) : kl g g.inp.length = keyOf g := by simp [kl, keyOf]
theorem itoa_small {x : Int} (h : smallI x) : (Lib.itoa x).length ≤ 21 := Lib.itoa_length_le x (by unfold smallI at h; omega) (by unfold smallI at h; omega)
theorem kl_len {g : Gate} (h : smallG g) : ∀ k, k ≤ g.inp.length → (kl g k).length ≤ 43 + 22 * k
  | 0, _ => by
    have h1 := itoa_small h.1
    have h2 := itoa_small h.2.1
    rw [kl_zero]
    simp only [List.length_append, List.length_cons, List.length_nil]
    omega
  | k + 1, hk => by
    have h1 := kl_len h k (by omega)
    have h2 := itoa_small (h.2.2.1 _ (List.getElem_mem (l := g.inp) (n := k) (by omega)))
    rw [kl_succ g (by omega)]
    simp only [List.length_append, List.length_cons, List.length_nil]
    omega
theorem kl_pos (g : Gate) (k : Nat) : 0 < (kl g k).length := by unfold kl; simp; omega
section
variable {w0 W : World} {v : Value} {n : Nat} {l : List UInt8}
theorem app10 (O : Own Z0 w0 W [.row v 5 1 n (Lib.byteCells l)]) (hn : n = l.length) (hlim : n + 21 ≤ 140737488355328) (tab : Tab w0) (i : Int) (h : smallI i) :
    Calls Tryd.prog 87 #[v, .int .i64 i, .int .i64 10] W fun e w' => ∃ A c n' l', e = .returned (.slice A n' c) ∧ l' = l ++ Lib.itoa i ∧ n' = l'.length ∧ n' ≤ n + 21 ∧ Own Z0 w0 w' [.row (.slice A n' c) 5 1 n' (Lib.byteCells l')] := by
  subst hn
  refine (Tryd.append_int10 w0.heap.size l.length i (by unfold smallI at h; omega) (by unfold smallI at h; omega) v _ W (O.newrow 0 rfl) O.old.size hlim (tab.tb.on O.old)).mono ?_
  rintro _ w' ⟨v', rfl, hr, hb, _⟩
  have hr' : w'.ownsRow w0.heap.size 5 1 v' (l ++ Lib.itoa i).length (Lib.byteCells (l ++ Lib.itoa i)) := by
    simpa [Lib.byteCells] using hr
  obtain ⟨A, c, rfl⟩ := own_form hr'
  exact ⟨A, c, _, _, rfl, rfl, rfl, by have := itoa_small h; simp; omega, O.rownext hr' hb⟩
theorem own_bytes (h : W.ownsRow 0 5 1 v n (Lib.byteCells l)) (hn : n = l.length) : OwnBytes W 0 v l := by subst hn; exact h
theorem own_app_byte {Z : Bool → Nat → Prop} {L : List En} {g : Nat} {b : UInt8} (O : Own Z w0 W (.row v 5 1 n (Lib.byteCells l) :: L)) (hk : Blk W g 5 #[.int .u8 b.toNat]) (hn : n = l.length) (hlim : n + 21 ≤ 1099511627776) :
    ∃ A c n' l' w', (∀ (ρ : Operand → Value) x y d t pos aft gd, ρ x = v → ρ y = .slice (some ⟨g, 0, none⟩) 1 1 → (execOp ρ ⟨d, .call ⟨.builtin .append, #[x, y], #[92, 92]⟩, t, pos, aft, gd⟩).run Tryd.prog W = .ok (.value (.slice A n' c)) w') ∧ l' = l ++ [b] ∧ n' = l'.length ∧ n' = n + 1 ∧ Own Z w0 w' (.row (.slice A n' c) 5 1 n' (Lib.byteCells l') :: L) := by
  obtain ⟨A, c, w', h1, h2, _, _⟩ := own_app1 O ap92 hk (cells := [.int .u8 b.toNat]) rfl rfl (by omega) (by omega) (ys := Lib.byteCells (l ++ [b])) (by simp [Lib.byteCells])
  exact ⟨A, c, n + 1, l ++ [b], w', h1, rfl, by simp [hn], rfl, h2⟩
end
end Go.Proofs.YtbemhgojfehnjaaDoor
namespace Go.Proofs.YtbemhgojfehnjaaDoor
open Go
theorem in_3 : Enters Tryd.prog 3 := enters_of Tryd.func3 (by kernel_rfl) rfl
theorem in_4 : Enters Tryd.prog 4 := enters_of Tryd.func4 (by kernel_rfl) rfl
theorem in_5 : Enters Tryd.prog 5 := enters_of Tryd.func5 (by kernel_rfl) rfl
theorem in_6 : Enters Tryd.prog 6 := enters_of Tryd.func6 (by kernel_rfl) rfl
theorem in_7 : Enters Tryd.prog 7 := enters_of Tryd.func7 (by kernel_rfl) rfl
theorem in_8 : Enters Tryd.prog 8 := enters_of Tryd.func8 (by kernel_rfl) rfl
theorem in_9 : Enters Tryd.prog 9 := enters_of Tryd.func9 (by kernel_rfl) rfl
theorem in_10 : Enters Tryd.prog 10 := enters_of Tryd.func10 (by kernel_rfl) rfl
theorem in_11 : Enters Tryd.prog 11 := enters_of Tryd.func11 (by kernel_rfl) rfl
theorem in_12 : Enters Tryd.prog 12 := enters_of Tryd.func12 (by kernel_rfl) rfl
theorem in_13 : Enters Tryd.prog 13 := enters_of Tryd.func13 (by kernel_rfl) rfl
theorem in_14 : Enters Tryd.prog 14 := enters_of Tryd.func14 (by kernel_rfl) rfl
theorem in_15 : Enters Tryd.prog 15 := enters_of Tryd.func15 (by kernel_rfl) rfl
theorem in_16 : Enters Tryd.prog 16 := enters_of Tryd.func16 (by kernel_rfl) rfl
theorem in_17 : Enters Tryd.prog 17 := enters_of Tryd.func17 (by kernel_rfl) rfl
theorem in_18 : Enters Tryd.prog 18 := enters_of Tryd.func18 (by kernel_rfl) rfl
theorem in_19 : Enters Tryd.prog 19 := enters_of Tryd.func19 (by kernel_rfl) rfl
theorem in_20 : Enters Tryd.prog 20 := enters_of Tryd.func20 (by kernel_rfl) rfl
theorem in_21 : Enters Tryd.prog 21 := enters_of Tryd.func21 (by kernel_rfl) rfl
theorem in_22 : Enters Tryd.prog 22 := enters_of Tryd.func22 (by kernel_rfl) rfl
theorem in_23 : Enters Tryd.prog 23 := enters_of Tryd.func23 (by kernel_rfl) rfl
theorem in_24 : Enters Tryd.prog 24 := enters_of Tryd.func24 (by kernel_rfl) rfl
theorem in_25 : Enters Tryd.prog 25 := enters_of Tryd.func25 (by kernel_rfl) rfl
theorem in_26 : Enters Tryd.prog 26 := enters_of Tryd.func26 (by kernel_rfl) rfl
theorem in_27 : Enters Tryd.prog 27 := enters_of Tryd.func27 (by kernel_rfl) rfl
theorem in_28 : Enters Tryd.prog 28 := enters_of Tryd.func28 (by kernel_rfl) rfl
theorem in_29 : Enters Tryd.prog 29 := enters_of Tryd.func29 (by kernel_rfl) rfl
theorem in_30 : Enters Tryd.prog 30 := enters_of Tryd.func30 (by kernel_rfl) rfl
theorem in_31 : Enters Tryd.prog 31 := enters_of Tryd.func31 (by kernel_rfl) rfl
theorem in_32 : Enters Tryd.prog 32 := enters_of Tryd.func32 (by kernel_rfl) rfl
theorem in_33 : Enters Tryd.prog 33 := enters_of Tryd.func33 (by kernel_rfl) rfl
theorem in_34 : Enters Tryd.prog 34 := enters_of Tryd.func34 (by kernel_rfl) rfl
theorem in_35 : Enters Tryd.prog 35 := enters_of Tryd.func35 (by kernel_rfl) rfl
theorem in_36 : Enters Tryd.prog 36 := enters_of Tryd.func36 (by kernel_rfl) rfl
theorem in_37 : Enters Tryd.prog 37 := enters_of Tryd.func37 (by kernel_rfl) rfl
theorem in_38 : Enters Tryd.prog 38 := enters_of Tryd.func38 (by kernel_rfl) rfl
theorem in_39 : Enters Tryd.prog 39 := enters_of Tryd.func39 (by kernel_rfl) rfl
theorem in_40 : Enters Tryd.prog 40 := enters_of Tryd.func40 (by kernel_rfl) rfl
theorem in_41 : Enters Tryd.prog 41 := enters_of Tryd.func41 (by kernel_rfl) rfl
theorem in_42 : Enters Tryd.prog 42 := enters_of Tryd.func42 (by kernel_rfl) rfl
theorem in_43 : Enters Tryd.prog 43 := enters_of Tryd.func43 (by kernel_rfl) rfl
theorem in_44 : Enters Tryd.prog 44 := enters_of Tryd.func44 (by kernel_rfl) rfl
theorem in_45 : Enters Tryd.prog 45 := enters_of Tryd.func45 (by kernel_rfl) rfl
theorem in_46 : Enters Tryd.prog 46 := enters_of Tryd.func46 (by kernel_rfl) rfl
theorem in_47 : Enters Tryd.prog 47 := enters_of Tryd.func47 (by kernel_rfl) rfl
theorem in_48 : Enters Tryd.prog 48 := enters_of Tryd.func48 (by kernel_rfl) rfl
theorem in_49 : Enters Tryd.prog 49 := enters_of Tryd.func49 (by kernel_rfl) rfl
theorem in_50 : Enters Tryd.prog 50 := enters_of Tryd.func50 (by kernel_rfl) rfl
theorem in_51 : Enters Tryd.prog 51 := enters_of Tryd.func51 (by kernel_rfl) rfl
theorem in_52 : Enters Tryd.prog 52 := enters_of Tryd.func52 (by kernel_rfl) rfl
theorem in_53 : Enters Tryd.prog 53 := enters_of Tryd.func53 (by kernel_rfl) rfl
theorem in_54 : Enters Tryd.prog 54 := enters_of Tryd.func54 (by kernel_rfl) rfl
theorem in_55 : Enters Tryd.prog 55 := enters_of Tryd.func55 (by kernel_rfl) rfl
theorem in_56 : Enters Tryd.prog 56 := enters_of Tryd.func56 (by kernel_rfl) rfl
theorem in_57 : Enters Tryd.prog 57 := enters_of Tryd.func57 (by kernel_rfl) rfl
theorem in_58 : Enters Tryd.prog 58 := enters_of Tryd.func58 (by kernel_rfl) rfl
theorem in_59 : Enters Tryd.prog 59 := enters_of Tryd.func59 (by kernel_rfl) rfl
theorem in_60 : Enters Tryd.prog 60 := enters_of Tryd.func60 (by kernel_rfl) rfl
theorem in_61 : Enters Tryd.prog 61 := enters_of Tryd.func61 (by kernel_rfl) rfl
theorem in_62 : Enters Tryd.prog 62 := enters_of Tryd.func62 (by kernel_rfl) rfl
theorem in_63 : Enters Tryd.prog 63 := enters_of Tryd.func63 (by kernel_rfl) rfl
theorem in_64 : Enters Tryd.prog 64 := enters_of Tryd.func64 (by kernel_rfl) rfl
theorem in_65 : Enters Tryd.prog 65 := enters_of Tryd.func65 (by kernel_rfl) rfl
theorem in_66 : Enters Tryd.prog 66 := enters_of Tryd.func66 (by kernel_rfl) rfl
theorem in_67 : Enters Tryd.prog 67 := enters_of Tryd.func67 (by kernel_rfl) rfl
theorem in_68 : Enters Tryd.prog 68 := enters_of Tryd.func68 (by kernel_rfl) rfl
theorem in_69 : Enters Tryd.prog 69 := enters_of Tryd.func69 (by kernel_rfl) rfl
theorem in_70 : Enters Tryd.prog 70 := enters_of Tryd.func70 (by kernel_rfl) rfl
theorem in_71 : Enters Tryd.prog 71 := enters_of Tryd.func71 (by kernel_rfl) rfl
theorem in_72 : Enters Tryd.prog 72 := enters_of Tryd.func72 (by kernel_rfl) rfl
theorem in_73 : Enters Tryd.prog 73 := enters_of Tryd.func73 (by kernel_rfl) rfl
theorem in_74 : Enters Tryd.prog 74 := enters_of Tryd.func74 (by kernel_rfl) rfl
theorem in_75 : Enters Tryd.prog 75 := enters_of Tryd.func75 (by kernel_rfl) rfl
theorem in_76 : Enters Tryd.prog 76 := enters_of Tryd.func76 (by kernel_rfl) rfl
theorem in_77 : Enters Tryd.prog 77 := enters_of Tryd.func77 (by kernel_rfl) rfl
theorem in_78 : Enters Tryd.prog 78 := enters_of Tryd.func78 (by kernel_rfl) rfl
theorem in_79 : Enters Tryd.prog 79 := enters_of Tryd.func79 (by kernel_rfl) rfl
theorem in_80 : Enters Tryd.prog 80 := enters_of Tryd.func80 (by kernel_rfl) rfl
theorem in_81 : Enters Tryd.prog 81 := enters_of Tryd.func81 (by kernel_rfl) rfl
theorem in_82 : Enters Tryd.prog 82 := enters_of Tryd.func82 (by kernel_rfl) rfl
theorem in_83 : Enters Tryd.prog 83 := enters_of Tryd.func83 (by kernel_rfl) rfl
theorem in_84 : Enters Tryd.prog 84 := enters_of Tryd.func84 (by kernel_rfl) rfl
theorem in_85 : Enters Tryd.prog 85 := enters_of Tryd.func85 (by kernel_rfl) rfl
theorem in_86 : Enters Tryd.prog 86 := enters_of Tryd.func86 (by kernel_rfl) rfl
theorem in_87 : Enters Tryd.prog 87 := enters_of Tryd.func87 (by kernel_rfl) rfl
end Go.Proofs.YtbemhgojfehnjaaDoor
namespace Go.Proofs.YtbemhgojfehnjaaDoor
open Go Go.RowKit
theorem key_ {W : World} {V : Value} {g : Gate} (hV : IntsV W W.heap.size V g.inp) (tab : Tab W) (sm : smallG g) :
    Calls Tryd.prog 86 #[.agg #[.int .i64 g.kind, .int .i64 g.lit, V]] W fun e w' => e = .returned (.string (keyV g)) ∧ Below W.heap.size W w' := by
  have sml := sm.2.2.2
  obtain ⟨A, c, rfl, _, _, _⟩ := id hV
  have O0 : Own Z0 W W [] := Own.start W
  refine sx_enter (args := [.agg #[.int .i64 g.kind, .int .i64 g.lit, .slice A g.inp.length c]]) Tryd.func86 rfl rfl (by simp) ?_
  refine cw_seq (fun FK1 K1 => ?_)
  refine cw_region ?_
  obtain ⟨g2, w3, r4, O5, hg6, hs7⟩ := own_box O0 38 (.agg #[.int .i64 g.kind, .int .i64 g.lit, .slice A g.inp.length c]) rfl
  have hbx := O5.blk 0 rfl
  have bW := O5.old
  have tab1 := tab.below (Nat.le_refl _) bW
  have O8 : Own Z0 w3 w3 [.row (.slice none 0 0) 5 1 0 (Lib.byteCells [])] := (Own.start w3).nilrow 5 1
  refine wl_val (v := .pointer (some ⟨g2, 0, none⟩)) (fun ρ e => r4 ρ _ _ _ _ _ _ (e _ _ rfl)) rfl rfl ?_
  refine wl_val (v := .string (⟨#[]⟩)) (fun ρ e => ex_assign (e _ _ rfl)) rfl rfl ?_
  refine wl_nil ?_
  refine xw_next K1 ?_
  refine cw_seq (fun FK9 K9 => ?_)
  refine cw_region ?_
  refine wl_val (v := .pointer (some ⟨g2, 0, none⟩)) (fun ρ e => ex_field (q := 0) fi38_0 (e _ _ rfl) rfl) rfl rfl ?_
  refine wl_val (v := .int .i64 g.kind) (fun ρ e => ex_load1 ty3 (e _ _ rfl) (hbx.oldcell O8.old 0 rfl)) rfl rfl ?_
  refine wl_call (args := [.slice none 0 0, .int .i64 g.kind, .int .i64 10]) in_87 rfl rfl rfl ?_
  refine (app10 O8 (rfl : 0 = ([] : List UInt8).length) (by omega) tab1 g.kind sm.1).mono ?_
  rintro _ w14 ⟨A12, c13, n10, l11, rfl, hl16, hn17, thn17, O15⟩
  refine ⟨_, rfl, ?_⟩
  refine wl_val (v := .slice A12 n10 c13) (fun ρ e => ex_assign (e _ _ rfl)) rfl rfl ?_
  refine wl_nil ?_
  refine xw_next K9 ?_
  refine cw_seq (fun FK18 K18 => ?_)
  refine cw_drawn (fun X => Own Z0 w3 X []) 6 [(0, 1), (3, 1), (4, 0), (1, 2), (2, 2), (5, 2), (6, 3)] (by kernel_rfl) (by kernel_rfl) (PQ.then_ PQ.body) ((O15.re [] rfl : Own Z0 w3 w14 [])).drew ?_
  have O19 : Own Z0 w3 w14.drew [.row (.slice A12 n10 c13) 5 1 n10 (Lib.byteCells l11)] := O15.drew
  refine wt1 (v := .slice A12 n10 c13) rfl (fun ρ e W => ex_move (e _ _ rfl)) rfl rfl ?_
  refine wt1 (v := .pointer (some ⟨g2, 1, none⟩)) rfl (fun ρ e W => ex_field (q := 1) fi38_1 (e _ _ rfl) rfl) rfl rfl ?_
  refine wt0 (v := .int .i64 g.lit) rfl (fun ρ e W hW => ex_load1 ty3 (e _ _ rfl) (hbx.oldcell hW.old 1 rfl)) rfl rfl ?_
  obtain ⟨g20, w21, r22, O23, hg24, hs25⟩ := own_slice O19 el92 ze5 1 [(0, .int .u8 32)] (cs := #[.int .u8 32]) (by decide) (by kernel_rfl)
  refine wt2 (v := .slice (some ⟨g20, 0, none⟩) 1 1) rfl (fun ρ e => r22 ρ _ _ _ _ _ _ (e.parts rfl)) rfl rfl (O23.re [] rfl : Own Z0 w3 w21 []) ?_
  obtain ⟨A26, c27, n28, l29, w30, r31, hl32, hn33, thn33, O34⟩ := own_app_byte (b := 32) (O23.re [1, 0] rfl : Own Z0 w3 w21 [.row (.slice A12 n10 c13) 5 1 n10 (Lib.byteCells l11), .blk g20 5 #[.int .u8 32]]) ((O23.re [1, 0] rfl : Own Z0 w3 w21 [.row (.slice A12 n10 c13) 5 1 n10 (Lib.byteCells l11), .blk g20 5 #[.int .u8 32]]).blk 1 rfl) hn17 (by omega)
  have O35 : Own Z0 w3 w30 [.row (.slice A26 n28 c27) 5 1 n28 (Lib.byteCells l29)] := (O34.re [0] rfl : Own Z0 w3 w30 [.row (.slice A26 n28 c27) 5 1 n28 (Lib.byteCells l29)])
  refine wt2 (v := .slice A26 n28 c27) rfl (fun ρ e => r31 ρ _ _ _ _ _ _ _ (e _ _ rfl) (e _ _ rfl)) rfl rfl (O35.re [] rfl : Own Z0 w3 w30 []) ?_
  refine wt2_call (args := [.slice A26 n28 c27, .int .i64 g.lit, .int .i64 10]) rfl in_87 rfl rfl rfl ?_
  refine (app10 O35 hn33 (by omega) tab1 g.lit sm.2.1).mono ?_
  rintro _ w40 ⟨A38, c39, n36, l37, rfl, hl42, hn43, thn43, O41⟩
  refine ⟨_, rfl, (O41.re [] rfl : Own Z0 w3 w40 []), ?_⟩
  refine wt3 (v := .slice A38 n36 c39) rfl (fun ρ e => ex_assign (e _ _ rfl)) rfl rfl ?_
  refine wt_nil ?_
  refine xw_next K18 ?_
  refine cw_seq (fun FK44 K44 => ?_)
  refine cw_seq (fun FK45 K45 => ?_)
  refine cw_region ?_
  refine wl_val (v := .pointer (some ⟨g2, 2, none⟩)) (fun ρ e => ex_field (q := 2) fi38_2 (e _ _ rfl) rfl) rfl rfl ?_
  refine wl_val (v := .slice A g.inp.length c) (fun ρ e => ex_load1 ty36 (e _ _ rfl) (hbx.oldcell O41.old 2 rfl)) rfl rfl ?_
  refine wl_val (v := .int .i64 ((g.inp.length : Nat) : Int)) (fun ρ e => ex_len el36 (e _ _ rfl)) rfl rfl ?_
  refine wl_val (v := .int .i64 0) (fun ρ e => ex_move (e _ _ rfl)) rfl rfl ?_
  refine wl_nil ?_
  refine xw_next K45 ?_
  refine cw_block ?_
  have hl0 : l37 = kl g 0 := by rw [kl_zero, hl42, hl32, hl16, List.nil_append]
  refine cw_loop (ι := Nat × Option Addr × Nat × Nat × List UInt8) (fun q => [(3, .slice q.2.1 q.2.2.2.1 q.2.2.1), (16, .slice A g.inp.length c), (17, .int .i64 ((g.inp.length : Nat) : Int)), (18, .int .i64 (q.1 : Int))]) (fun q X => q.1 ≤ g.inp.length ∧ q.2.2.2.1 = q.2.2.2.2.length ∧ q.2.2.2.2 = kl g q.1 ∧ Own Z0 w3 X [.row (.slice q.2.1 q.2.2.2.1 q.2.2.1) 5 1 q.2.2.2.1 (Lib.byteCells q.2.2.2.2)]) (fun q => g.inp.length - q.1) (0, A38, c39, n36, l37) ⟨Nat.zero_le _, hn43, hl0, O41⟩ ⟨rfl, rfl, rfl, rfl, trivial⟩ (fun q w46 hJ F47 K48 => ?_)
  obtain ⟨k, A2, c2, n, l⟩ := q
  obtain ⟨hkn, hn, hlk, O49⟩ := hJ
  dsimp only at hkn hn hlk O49 ⊢
  have hkl := kl_len sm k hkn
  rw [← hlk] at hkl
  by_cases hk : k < g.inp.length
  · obtain ⟨b, o, rfl, hb1, hck⟩ := hV.at_ bW hk
    refine cw_seq (fun FK50 K50 => ?_)
    refine cw_region ?_
    refine wl_val (v := .bool true) (fun ρ e => ex_cmp (u := (k : Int)) (v := ((g.inp.length : Nat) : Int)) (e _ _ rfl) (e _ _ rfl) (lss1 (by omega))) rfl rfl ?_
    refine wl_nil ?_
    refine xw_next K50 ?_
    refine cw_seq (fun FK51 K51 => ?_)
    refine cw_true rfl ?_
    refine cw_skip ?_
    refine xw_next K51 ?_
    refine cw_seq (fun FK52 K52 => ?_)
    refine cw_block ?_
    refine cw_seq (fun FK53 K53 => ?_)
    refine cw_region ?_
    refine wl_val (v := .pointer (some ⟨b, o + k, none⟩)) (fun ρ e => ex_idx (q := o + k) el36 (e _ _ rfl) (e _ _ rfl) (by omega) (by omega)) rfl rfl ?_
    refine wl_val (v := .int .i64 (g.inp[k])) (fun ρ e => ex_load1 ty3 (e _ _ rfl) ((O49.old.cell (p := ⟨b, o + k, none⟩) (Nat.lt_of_lt_of_le hb1 bW.size)).trans hck)) rfl rfl ?_
    refine wl_val (v := .int .i64 (g.inp[k])) (fun ρ e => ex_assign (e _ _ rfl)) rfl rfl ?_
    refine wl_nil ?_
    refine xw_next K53 ?_
    refine cw_region ?_
    refine wl_val (v := .slice A2 n c2) (fun ρ e => ex_move (e _ _ rfl)) rfl rfl ?_
    obtain ⟨g54, w55, r56, O57, hg58, hs59⟩ := own_slice O49 el92 ze5 1 [(0, .int .u8 32)] (cs := #[.int .u8 32]) (by decide) (by kernel_rfl)
    refine wl_val (v := .slice (some ⟨g54, 0, none⟩) 1 1) (fun ρ e => r56 ρ _ _ _ _ _ _ (e.parts rfl)) rfl rfl ?_
    obtain ⟨A60, c61, n62, l63, w64, r65, hl66, hn67, thn67, O68⟩ := own_app_byte (b := 32) (O57.re [1, 0] rfl : Own Z0 w3 w55 [.row (.slice A2 n c2) 5 1 n (Lib.byteCells l), .blk g54 5 #[.int .u8 32]]) ((O57.re [1, 0] rfl : Own Z0 w3 w55 [.row (.slice A2 n c2) 5 1 n (Lib.byteCells l), .blk g54 5 #[.int .u8 32]]).blk 1 rfl) hn (by omega)
    have O69 : Own Z0 w3 w64 [.row (.slice A60 n62 c61) 5 1 n62 (Lib.byteCells l63)] := (O68.re [0] rfl : Own Z0 w3 w64 [.row (.slice A60 n62 c61) 5 1 n62 (Lib.byteCells l63)])
    refine wl_val (v := .slice A60 n62 c61) (fun ρ e => r65 ρ _ _ _ _ _ _ _ (e _ _ rfl) (e _ _ rfl)) rfl rfl ?_
    refine wl_val (v := .int .i64 (g.inp[k])) (fun ρ e => ex_move (e _ _ rfl)) rfl rfl ?_
    refine wl_call (args := [.slice A60 n62 c61, .int .i64 (g.inp[k]), .int .i64 10]) in_87 rfl rfl rfl ?_
    refine (app10 O69 hn67 (by omega) tab1 (g.inp[k]) (sm.2.2.1 _ (List.getElem_mem hk))).mono ?_
    rintro _ w74 ⟨A72, c73, n70, l71, rfl, hl76, hn77, thn77, O75⟩
    refine ⟨_, rfl, ?_⟩
    refine wl_val (v := .slice A72 n70 c73) (fun ρ e => ex_assign (e _ _ rfl)) rfl rfl ?_
    refine wl_nil ?_
    refine xw_block ?_
    refine xw_next K52 ?_
    refine cw_region ?_
    refine wl_val (v := .int .i64 ((k + 1 : Nat) : Int)) (fun ρ e => ex_arith (k := .i64) (u := (k : Int)) (v := 1) (e _ _ rfl) (e _ _ rfl) (congrArg some ((congrArg _ (by omega)).trans (wrap_in (u := ((k + 1 : Nat) : Int)) (by omega) (by omega))))) rfl rfl ?_
    refine wl_val (v := .int .i64 ((k + 1 : Nat) : Int)) (fun ρ e => ex_move (e _ _ rfl)) rfl rfl ?_
    refine wl_nil ?_
    refine xw_round K48 (k + 1, A72, c73, n70, l71) (by show g.inp.length - (k + 1) < g.inp.length - k; omega) ⟨(by show k + 1 ≤ _; omega), hn77, (by show l71 = kl g (k + 1); rw [kl_succ g hk, hl76, hl66, hlk]), O75⟩ ⟨rfl, rfl, rfl, rfl, trivial⟩
  · have hke : k = g.inp.length := by omega
    have hlp : 0 < l.length := by rw [hlk]; exact kl_pos g k
    refine cw_seq (fun FK78 K78 => ?_)
    refine cw_region ?_
    refine wl_val (v := .bool false) (fun ρ e => ex_cmp (u := (k : Int)) (v := ((g.inp.length : Nat) : Int)) (e _ _ rfl) (e _ _ rfl) (lss0 (by omega))) rfl rfl ?_
    refine wl_nil ?_
    refine xw_next K78 ?_
    refine cw_seq (fun FK79 K79 => ?_)
    refine cw_false rfl ?_
    refine cw_exit ?_
    refine xw_past (by intro h; cases h) ?_
    refine xw_past (by intro h; cases h) ?_
    refine xw_here ?_
    refine xw_next K44 ?_
    refine cw_seq (fun FK80 K80 => ?_)
    refine cw_region ?_
    refine wl_val (v := .slice A2 n c2) (fun ρ e => ex_move (e _ _ rfl)) rfl rfl ?_
    refine wl_val (v := .string (⟨l.toArray⟩)) (fun ρ e => ex_text (base := 0) (e _ _ rfl) (own_bytes (O49.row 0 rfl) hn) hlp) rfl rfl ?_
    refine wl_val (v := .string (⟨l.toArray⟩)) (fun ρ e => ex_assign (e _ _ rfl)) rfl rfl ?_
    refine wl_nil ?_
    refine xw_next K80 ?_
    refine cw_ret ?_
    refine xw_ret (v := .string (⟨l.toArray⟩)) (fun T hT => res1 rfl T _ (hT 2 _ rfl)) ?_
    exact ⟨by rw [hlk, hke, kl_full]; rfl, bW.trans (O49.old.mono bW.size)⟩
end Go.Proofs.YtbemhgojfehnjaaDoor
namespace Go.Proofs.YtbemhgojfehnjaaDoor
open Go Go.RowKit
theorem is_ {Z : Bool → Nat → Prop} {w0 W : World} {rest : List En} {f m c : Nat} {R : Option Addr} {D : Nat → Prop} {L : List Gate} {vs : List Value} (O : Own Z w0 W (foldE f m R c D L vs ++ rest)) {i : Nat} (hi : i < L.length) (k : Int) :
    Calls Tryd.prog 82 #[.pointer (some ⟨f, 0, none⟩), .int .i64 (i : Int), .int .i64 k] W fun e w' => e = .returned (.bool (kindAt L (i : Int) == k)) ∧ Below W.heap.size W w' := by
  have hf := O.blk 0 rfl
  obtain ⟨r, v, rfl, hr, hv, hD, h0, h1, h2⟩ := fold_gate O hi
  have O0 : Own Z0 W W [] := Own.start W
  refine sx_enter (args := [.pointer (some ⟨f, 0, none⟩), .int .i64 (i : Int), .int .i64 k]) Tryd.func82 rfl rfl (by simp) ?_
  refine cw_seq (fun FK1 K1 => ?_)
  refine cw_region ?_
  refine wl_val (v := .bool false) (fun ρ e => ex_assign (e _ _ rfl)) rfl rfl ?_
  refine wl_nil ?_
  refine xw_next K1 ?_
  refine cw_seq (fun FK2 K2 => ?_)
  refine cw_region ?_
  refine wl_val (v := .pointer (some ⟨f, 0, none⟩)) (fun ρ e => ex_move (e _ _ rfl)) rfl rfl ?_
  refine wl_val (v := .pointer (some ⟨f, 0, none⟩)) (fun ρ e => ex_nil (e _ _ rfl)) rfl rfl ?_
  refine wl_val (v := .pointer (some ⟨f, 0, none⟩)) (fun ρ e => ex_field (q := 0) fi56_0 (e _ _ rfl) rfl) rfl rfl ?_
  refine wl_val (v := .slice (some ⟨r, 0, none⟩) L.length c) (fun ρ e => ex_load1 ty22 (e _ _ rfl) (hf.oldcell O0.old 0 rfl)) rfl rfl ?_
  refine wl_val (v := .int .i64 (i : Int)) (fun ρ e => ex_move (e _ _ rfl)) rfl rfl ?_
  refine wl_val (v := .pointer (some ⟨r, i * 3, none⟩)) (fun ρ e => ex_idx (q := i * 3) el22 (e _ _ rfl) (e _ _ rfl) (by omega) (by omega)) rfl rfl ?_
  refine wl_val (v := .pointer (some ⟨r, i * 3, none⟩)) (fun ρ e => ex_field (q := i * 3) fi38_0 (e _ _ rfl) rfl) rfl rfl ?_
  refine wl_val (v := .int .i64 (L[i].kind)) (fun ρ e => ex_load1 ty3 (e _ _ rfl) ((O0.old.cell (p := ⟨r, i * 3, none⟩) hr).trans h0)) rfl rfl ?_
  refine wl_val (v := .int .i64 k) (fun ρ e => ex_move (e _ _ rfl)) rfl rfl ?_
  refine wl_val (v := .bool (L[i].kind == k)) (fun ρ e => ex_cmp (u := L[i].kind) (v := k) (r := (L[i].kind == k)) (e _ _ rfl) (e _ _ rfl) rfl) rfl rfl ?_
  refine wl_val (v := .bool (L[i].kind == k)) (fun ρ e => ex_assign (e _ _ rfl)) rfl rfl ?_
  refine wl_nil ?_
  refine xw_next K2 ?_
  refine cw_ret ?_
  refine xw_ret (v := .bool (L[i].kind == k)) (fun T hT => res1 rfl T _ (hT 6 _ rfl)) ?_
  exact ⟨by simp [kindAt, gateAt, List.getElem?_eq_getElem hi], O0.old⟩
end Go.Proofs.YtbemhgojfehnjaaDoor
namespace Go.Proofs.YtbemhgojfehnjaaDoor
open Go Go.RowKit
theorem keys_put {g : Gate} {L : List Gate} (hx : gidx g L 0 = none) : aput (keyV g) (.int .i64 (L.length : Int)) (keysGo L 0) = keysGo (L ++ [g]) 0 := by
  have h1 := look_keys g L 0 0
  rw [hx] at h1
  have h2 : look (keyV g) (keysGo L 0) 0 = none := by
    cases h : look (keyV g) (keysGo L 0) 0 with
    | none => rfl
    | some p => rw [h] at h1; cases h1
  rw [aput_none _ _ _ 0 h2, keysGo_snoc, Nat.zero_add]
/-- What a method of the folder leaves. -/
def FPost (A : List En) (W : World) (f m : Nat) (q : List Gate × Int) (e : Ending) (w' : World) : Prop :=
  ∃ R c D vs, e = .returned (.int .i64 q.2) ∧ Own (zone A) W w' (foldE f m R c D q.1 vs)
section
variable {W w' : World} {f m c k : Nat} {R : Option Addr} {D D2 : Nat → Prop} {L : List Gate} {vs : List Value} {V : Value} {g : Gate} {A : List En}
theorem find_old (hx : gidx g L 0 = some k) (O : Own (zone A) W w' (foldE f m R c D L vs ++ [inE D2 V g.inp])) : FPost A W f m (findG L g) (.returned (.int .i64 (k : Int))) w' := by
  unfold findG
  rw [hx]
  exact ⟨R, c, D, vs, rfl, O.re [0, 1, 2, 3, 4] rfl⟩
theorem find_new (hx : gidx g L 0 = none) (O : Own (zone A) W w' [.blk f 56 #[.slice R (L.length + 1) c, .map (some m)], .map m (encL strE (keysGo (L ++ [g]) 0)), .row (.slice R (L.length + 1) c) 38 3 (L.length + 1) (gcells (L ++ [g]) (vs ++ [V])), insE D L vs, tabE, inE D2 V g.inp]) :
    FPost A W f m (findG L g) (.returned (.int .i64 (L.length : Int))) w' := by
  unfold findG
  rw [hx]
  refine ⟨R, c, fun k => D k ∨ D2 k, vs ++ [V], rfl, ?_⟩
  have O1 : Own (zone A) W w' ([insE D L vs, inE D2 V g.inp] ++ [.blk f 56 #[.slice R (L.length + 1) c, .map (some m)], .map m (encL strE (keysGo (L ++ [g]) 0)), .row (.slice R (L.length + 1) c) 38 3 (L.length + 1) (gcells (L ++ [g]) (vs ++ [V])), tabE]) := O.re [3, 5, 0, 1, 2, 4] rfl
  have i1 : Ins D L vs w' := O.ro 3 rfl
  have i2 : IntsD D2 w' V g.inp := O.ro 5 rfl
  have O2 := O1.step (A' := [insE (fun k => D k ∨ D2 k) (L ++ [g]) (vs ++ [V])]) (Frame.refl NoB w') (fun _ _ hn => hn.elim)
    (fun e he => by
      rw [List.mem_singleton.1 he]
      exact ⟨i1.snoc i2, fun k hk => hk.elim (fun q => (O.get 3 rfl).2.1 k q) (fun q => (O.get 5 rfl).2.1 k q), fun _ _ _ hk h => h.move hk⟩)
    (List.pairwise_singleton _ _)
    (fun e he k hk => by
      rw [List.mem_singleton.1 he] at hk ⊢
      refine .inl ?_
      rcases hk with q | q
      · exact ⟨insE D L vs, by simp, q, fun h => h.elim⟩
      · exact ⟨inE D2 V g.inp, by simp, q, fun h => h.elim⟩)
  have O3 := O2.re [1, 2, 3, 0, 4] rfl
  have e : (L ++ [g]).length = L.length + 1 := by simp
  unfold foldE
  rw [e]
  exact O3
theorem find_ (O0 : Own (zone (foldE f m R c D L vs ++ [inE D2 V g.inp])) W W (foldE f m R c D L vs ++ [inE D2 V g.inp])) (sm : smallG g) (hL : L.length ≤ 1000000) :
    Calls Tryd.prog 80 #[.pointer (some ⟨f, 0, none⟩), .agg #[.int .i64 g.kind, .int .i64 g.lit, V]] W (FPost (foldE f m R c D L vs ++ [inE D2 V g.inp]) W f m (findG L g)) := by
  have hins : Ins D L vs W := O0.ro 3 rfl
  have hV : IntsD D2 W V g.inp := O0.ro 5 rfl
  obtain ⟨AV, cV, rfl, _, _, _⟩ := id hV
  have hr0 := look_keys g L 0 0
  cases hx : gidx g L 0 with
  | some k =>
    rw [hx] at hr0
    obtain ⟨⟨k', v'⟩, hr, hv'⟩ : ∃ p, look (keyV g) (keysGo L 0) 0 = some p ∧ p.2 = .int .i64 (k : Int) := by
      cases h : look (keyV g) (keysGo L 0) 0 with
      | none => rw [h] at hr0; cases hr0
      | some p => rw [h] at hr0; exact ⟨p, rfl, Option.some.inj hr0⟩
    simp only at hv'
    subst hv'
    refine sx_enter (args := [.pointer (some ⟨f, 0, none⟩), .agg #[.int .i64 g.kind, .int .i64 g.lit, .slice AV g.inp.length cV]]) Tryd.func80 rfl rfl (by simp) ?_
    refine cw_seq (fun FK1 K1 => ?_)
    refine cw_region ?_
    obtain ⟨g2, w3, r4, O5, hg6, hs7⟩ := own_box O0 38 (.agg #[.int .i64 g.kind, .int .i64 g.lit, .slice AV g.inp.length cV]) rfl
    refine wl_val (v := .pointer (some ⟨g2, 0, none⟩)) (fun ρ e => r4 ρ _ _ _ _ _ _ (e _ _ rfl)) rfl rfl ?_
    refine wl_val (v := .int .i64 0) (fun ρ e => ex_assign (e _ _ rfl)) rfl rfl ?_
    refine wl_nil ?_
    refine xw_next K1 ?_
    refine cw_seq (fun FK8 K8 => ?_)
    refine cw_region ?_
    refine wl_val (v := .agg #[.int .i64 g.kind, .int .i64 g.lit, .slice AV g.inp.length cV]) (fun ρ e => ex_loadN (vs := [.int .i64 g.kind, .int .i64 g.lit, .slice AV g.inp.length cV]) ty38 (e _ _ rfl) rfl (O5.cells 0 0 rfl rfl)) rfl rfl ?_
    refine wl_call (args := [.agg #[.int .i64 g.kind, .int .i64 g.lit, .slice AV g.inp.length cV]]) in_86 rfl rfl rfl ?_
    refine (key_ (g := g) ((O5.ro 6 rfl : IntsD D2 _ _ g.inp).V (O5.get 6 rfl).2.1) (O5.ro 5 rfl) sm).mono ?_
    rintro _ w9 ⟨rfl, hb10⟩
    have O11 : Own (zone (foldE f m R c D L vs ++ [inE D2 (.slice AV g.inp.length cV) g.inp])) W w9 [.blk g2 38 #[.int .i64 g.kind, .int .i64 g.lit, .slice AV g.inp.length cV], .blk f 56 #[.slice R L.length c, .map (some m)], .map m (encL strE (keysGo L 0)), .row (.slice R L.length c) 38 3 L.length (gcells L vs), .ro D (Ins D L vs), .ro TabD Tab, .ro D2 (fun w => IntsD D2 w (.slice AV g.inp.length cV) g.inp)] := O5.below hb10
    refine ⟨_, rfl, ?_⟩
    refine wl_val (v := .string (keyV g)) (fun ρ e => ex_assign (e _ _ rfl)) rfl rfl ?_
    refine wl_nil ?_
    refine xw_next K8 ?_
    refine cw_seq (fun FK12 K12 => ?_)
    refine cw_seq (fun FK13 K13 => ?_)
    refine cw_region ?_
    refine wl_val (v := .pointer (some ⟨f, 0, none⟩)) (fun ρ e => ex_move (e _ _ rfl)) rfl rfl ?_
    refine wl_val (v := .pointer (some ⟨f, 0, none⟩)) (fun ρ e => ex_nil (e _ _ rfl)) rfl rfl ?_
    refine wl_val (v := .pointer (some ⟨f, 1, none⟩)) (fun ρ e => ex_field (q := 1) fi56_1 (e _ _ rfl) rfl) rfl rfl ?_
    refine wl_val (v := .map (some m)) (fun ρ e => ex_load1 ty54 (e _ _ rfl) (O11.cell 1 1 rfl rfl)) rfl rfl ?_
    refine wl_val (v := .string (keyV g)) (fun ρ e => ex_move (e _ _ rfl)) rfl rfl ?_
    refine wl_val (v := .tuple #[.int .i64 (k : Int), .bool true]) (fun ρ e => ex_look strKey Tryd.underlying54 Tryd.underlying9 ze3 (O11.map 2 rfl) (keyV g) hr true (e _ _ rfl) (e _ _ rfl) rfl) rfl rfl ?_
    refine wl_val (v := .tuple #[.int .i64 (k : Int), .bool true]) (fun ρ e => ex_move (e _ _ rfl)) rfl rfl ?_
    refine wl_val (v := .int .i64 (k : Int)) (fun ρ e => ex_extract (vs := #[.int .i64 (k : Int), .bool true]) (e _ _ rfl) rfl) rfl rfl ?_
    refine wl_val (v := .bool true) (fun ρ e => ex_extract (vs := #[.int .i64 (k : Int), .bool true]) (e _ _ rfl) rfl) rfl rfl ?_
    refine wl_val (v := .int .i64 (k : Int)) (fun ρ e => ex_assign (e _ _ rfl)) rfl rfl ?_
    refine wl_val (v := .bool true) (fun ρ e => ex_assign (e _ _ rfl)) rfl rfl ?_
    refine wl_nil ?_
    refine xw_next K13 ?_
    refine cw_seq (fun FK14 K14 => ?_)
    refine cw_region ?_
    refine wl_val (v := .bool true) (fun ρ e => ex_move (e _ _ rfl)) rfl rfl ?_
    refine wl_nil ?_
    refine xw_next K14 ?_
    refine cw_true rfl ?_
    refine cw_seq (fun FK15 K15 => ?_)
    refine cw_region ?_
    refine wl_val (v := .int .i64 (k : Int)) (fun ρ e => ex_move (e _ _ rfl)) rfl rfl ?_
    refine wl_val (v := .int .i64 (k : Int)) (fun ρ e => ex_assign (e _ _ rfl)) rfl rfl ?_
    refine wl_nil ?_
    refine xw_next K15 ?_
    refine cw_ret ?_
    refine xw_past (by intro h; cases h) ?_
    refine xw_ret (v := .int .i64 (k : Int)) (fun T hT => res1 rfl T _ (hT 4 _ rfl)) ?_
    exact find_old hx (O11.re [1, 2, 3, 4, 5, 6] rfl : Own (zone (foldE f m R c D L vs ++ [inE D2 (.slice AV g.inp.length cV) g.inp])) W w9 [.blk f 56 #[.slice R L.length c, .map (some m)], .map m (encL strE (keysGo L 0)), .row (.slice R L.length c) 38 3 L.length (gcells L vs), .ro D (Ins D L vs), .ro TabD Tab, .ro D2 (fun w => IntsD D2 w (.slice AV g.inp.length cV) g.inp)])
  | none =>
    rw [hx] at hr0
    have hr : look (keyV g) (keysGo L 0) 0 = none := by
      cases h : look (keyV g) (keysGo L 0) 0 with
      | none => rfl
      | some p => rw [h] at hr0; cases hr0
    refine sx_enter (args := [.pointer (some ⟨f, 0, none⟩), .agg #[.int .i64 g.kind, .int .i64 g.lit, .slice AV g.inp.length cV]]) Tryd.func80 rfl rfl (by simp) ?_
    refine cw_seq (fun FK1 K1 => ?_)
    refine cw_region ?_
    obtain ⟨g2, w3, r4, O5, hg6, hs7⟩ := own_box O0 38 (.agg #[.int .i64 g.kind, .int .i64 g.lit, .slice AV g.inp.length cV]) rfl
    refine wl_val (v := .pointer (some ⟨g2, 0, none⟩)) (fun ρ e => r4 ρ _ _ _ _ _ _ (e _ _ rfl)) rfl rfl ?_
    refine wl_val (v := .int .i64 0) (fun ρ e => ex_assign (e _ _ rfl)) rfl rfl ?_
    refine wl_nil ?_
    refine xw_next K1 ?_
    refine cw_seq (fun FK8 K8 => ?_)
    refine cw_region ?_
    refine wl_val (v := .agg #[.int .i64 g.kind, .int .i64 g.lit, .slice AV g.inp.length cV]) (fun ρ e => ex_loadN (vs := [.int .i64 g.kind, .int .i64 g.lit, .slice AV g.inp.length cV]) ty38 (e _ _ rfl) rfl (O5.cells 0 0 rfl rfl)) rfl rfl ?_
    refine wl_call (args := [.agg #[.int .i64 g.kind, .int .i64 g.lit, .slice AV g.inp.length cV]]) in_86 rfl rfl rfl ?_
    refine (key_ (g := g) ((O5.ro 6 rfl : IntsD D2 _ _ g.inp).V (O5.get 6 rfl).2.1) (O5.ro 5 rfl) sm).mono ?_
    rintro _ w9 ⟨rfl, hb10⟩
    have O11 : Own (zone (foldE f m R c D L vs ++ [inE D2 (.slice AV g.inp.length cV) g.inp])) W w9 [.blk g2 38 #[.int .i64 g.kind, .int .i64 g.lit, .slice AV g.inp.length cV], .blk f 56 #[.slice R L.length c, .map (some m)], .map m (encL strE (keysGo L 0)), .row (.slice R L.length c) 38 3 L.length (gcells L vs), .ro D (Ins D L vs), .ro TabD Tab, .ro D2 (fun w => IntsD D2 w (.slice AV g.inp.length cV) g.inp)] := O5.below hb10
    refine ⟨_, rfl, ?_⟩
    refine wl_val (v := .string (keyV g)) (fun ρ e => ex_assign (e _ _ rfl)) rfl rfl ?_
    refine wl_nil ?_
    refine xw_next K8 ?_
    refine cw_seq (fun FK12 K12 => ?_)
    refine cw_seq (fun FK13 K13 => ?_)
    refine cw_region ?_
    refine wl_val (v := .pointer (some ⟨f, 0, none⟩)) (fun ρ e => ex_move (e _ _ rfl)) rfl rfl ?_
    refine wl_val (v := .pointer (some ⟨f, 0, none⟩)) (fun ρ e => ex_nil (e _ _ rfl)) rfl rfl ?_
    refine wl_val (v := .pointer (some ⟨f, 1, none⟩)) (fun ρ e => ex_field (q := 1) fi56_1 (e _ _ rfl) rfl) rfl rfl ?_
    refine wl_val (v := .map (some m)) (fun ρ e => ex_load1 ty54 (e _ _ rfl) (O11.cell 1 1 rfl rfl)) rfl rfl ?_
    refine wl_val (v := .string (keyV g)) (fun ρ e => ex_move (e _ _ rfl)) rfl rfl ?_
    refine wl_val (v := .tuple #[.int .i64 0, .bool false]) (fun ρ e => ex_look strKey Tryd.underlying54 Tryd.underlying9 ze3 (O11.map 2 rfl) (keyV g) hr true (e _ _ rfl) (e _ _ rfl) rfl) rfl rfl ?_
    refine wl_val (v := .tuple #[.int .i64 0, .bool false]) (fun ρ e => ex_move (e _ _ rfl)) rfl rfl ?_
    refine wl_val (v := .int .i64 0) (fun ρ e => ex_extract (vs := #[.int .i64 0, .bool false]) (e _ _ rfl) rfl) rfl rfl ?_
    refine wl_val (v := .bool false) (fun ρ e => ex_extract (vs := #[.int .i64 0, .bool false]) (e _ _ rfl) rfl) rfl rfl ?_
    refine wl_val (v := .int .i64 0) (fun ρ e => ex_assign (e _ _ rfl)) rfl rfl ?_
    refine wl_val (v := .bool false) (fun ρ e => ex_assign (e _ _ rfl)) rfl rfl ?_
    refine wl_nil ?_
    refine xw_next K13 ?_
    refine cw_seq (fun FK14 K14 => ?_)
    refine cw_region ?_
    refine wl_val (v := .bool false) (fun ρ e => ex_move (e _ _ rfl)) rfl rfl ?_
    refine wl_nil ?_
    refine xw_next K14 ?_
    refine cw_false rfl ?_
    refine cw_skip ?_
    refine xw_next K12 ?_
    refine cw_seq (fun FK15 K15 => ?_)
    refine cw_drawn (fun X => Own (zone (foldE f m R c D L vs ++ [inE D2 (.slice AV g.inp.length cV) g.inp])) W X [.blk g2 38 #[.int .i64 g.kind, .int .i64 g.lit, .slice AV g.inp.length cV], .blk f 56 #[.slice R L.length c, .map (some m)], .ro D (Ins D L vs), .ro TabD Tab, .ro D2 (fun w => IntsD D2 w (.slice AV g.inp.length cV) g.inp)]) 10 [(0, 1), (1, 1), (2, 1), (3, 0), (4, 1), (5, 1), (6, 1), (7, 1), (8, 0), (9, 1), (10, 3)] (by kernel_rfl) (by kernel_rfl) (PQ.then_ PQ.body) ((O11.re [0, 1, 4, 5, 6] rfl : Own (zone (foldE f m R c D L vs ++ [inE D2 (.slice AV g.inp.length cV) g.inp])) W w9 [.blk g2 38 #[.int .i64 g.kind, .int .i64 g.lit, .slice AV g.inp.length cV], .blk f 56 #[.slice R L.length c, .map (some m)], .ro D (Ins D L vs), .ro TabD Tab, .ro D2 (fun w => IntsD D2 w (.slice AV g.inp.length cV) g.inp)])).drew ?_
    have O16 : Own (zone (foldE f m R c D L vs ++ [inE D2 (.slice AV g.inp.length cV) g.inp])) W w9.drew [.blk g2 38 #[.int .i64 g.kind, .int .i64 g.lit, .slice AV g.inp.length cV], .blk f 56 #[.slice R L.length c, .map (some m)], .map m (encL strE (keysGo L 0)), .row (.slice R L.length c) 38 3 L.length (gcells L vs), .ro D (Ins D L vs), .ro TabD Tab, .ro D2 (fun w => IntsD D2 w (.slice AV g.inp.length cV) g.inp)] := O11.drew
    refine wt1 (v := .pointer (some ⟨f, 0, none⟩)) rfl (fun ρ e W => ex_move (e _ _ rfl)) rfl rfl ?_
    refine wt1 (v := .pointer (some ⟨f, 0, none⟩)) rfl (fun ρ e W => ex_nil (e _ _ rfl)) rfl rfl ?_
    refine wt1 (v := .pointer (some ⟨f, 1, none⟩)) rfl (fun ρ e W => ex_field (q := 1) fi56_1 (e _ _ rfl) rfl) rfl rfl ?_
    refine wt0 (v := .map (some m)) rfl (fun ρ e W hW => ex_load1 ty54 (e _ _ rfl) (hW.cell 1 1 rfl rfl)) rfl rfl ?_
    refine wt1 (v := .string (keyV g)) rfl (fun ρ e W => ex_move (e _ _ rfl)) rfl rfl ?_
    refine wt1 (v := .pointer (some ⟨f, 0, none⟩)) rfl (fun ρ e W => ex_move (e _ _ rfl)) rfl rfl ?_
    refine wt1 (v := .pointer (some ⟨f, 0, none⟩)) rfl (fun ρ e W => ex_nil (e _ _ rfl)) rfl rfl ?_
    refine wt1 (v := .pointer (some ⟨f, 0, none⟩)) rfl (fun ρ e W => ex_field (q := 0) fi56_0 (e _ _ rfl) rfl) rfl rfl ?_
    refine wt0 (v := .slice R L.length c) rfl (fun ρ e W hW => ex_load1 ty22 (e _ _ rfl) (hW.cell 1 0 rfl rfl)) rfl rfl ?_
    refine wt1 (v := .int .i64 ((L.length : Nat) : Int)) rfl (fun ρ e W => ex_len el22 (e _ _ rfl)) rfl rfl ?_
    obtain ⟨w17, r18, O19, hs20⟩ := own_mapput (O16.re [2, 0, 1, 3, 4, 5, 6] rfl : Own (zone (foldE f m R c D L vs ++ [inE D2 (.slice AV g.inp.length cV) g.inp])) W w9.drew [.map m (encL strE (keysGo L 0)), .blk g2 38 #[.int .i64 g.kind, .int .i64 g.lit, .slice AV g.inp.length cV], .blk f 56 #[.slice R L.length c, .map (some m)], .row (.slice R L.length c) 38 3 L.length (gcells L vs), .ro D (Ins D L vs), .ro TabD Tab, .ro D2 (fun w => IntsD D2 w (.slice AV g.inp.length cV) g.inp)]) strKey Tryd.underlying54 Tryd.underlying9 (keyV g) (.int .i64 (L.length : Int))
    rw [keys_put hx] at O19
    refine wt3_none rfl (fun ρ e => r18 ρ _ _ _ _ _ _ _ (e _ _ rfl) (e _ _ rfl) (e _ _ rfl)) rfl ?_
    refine wt_nil ?_
    refine xw_next K15 ?_
    refine cw_seq (fun FK21 K21 => ?_)
    refine cw_drawn (fun X => Own (zone (foldE f m R c D L vs ++ [inE D2 (.slice AV g.inp.length cV) g.inp])) W X [.blk g2 38 #[.int .i64 g.kind, .int .i64 g.lit, .slice AV g.inp.length cV], .blk f 56 #[.slice R L.length c, .map (some m)], .ro D (Ins D L vs), .ro TabD Tab, .ro D2 (fun w => IntsD D2 w (.slice AV g.inp.length cV) g.inp)]) 10 [(0, 1), (1, 1), (2, 1), (3, 1), (4, 0), (5, 0), (6, 2), (7, 2), (8, 1), (9, 1), (10, 3)] (by kernel_rfl) (by kernel_rfl) (PQ.then_ PQ.body) ((O19.re [1, 2, 4, 5, 6] rfl : Own (zone (foldE f m R c D L vs ++ [inE D2 (.slice AV g.inp.length cV) g.inp])) W w17 [.blk g2 38 #[.int .i64 g.kind, .int .i64 g.lit, .slice AV g.inp.length cV], .blk f 56 #[.slice R L.length c, .map (some m)], .ro D (Ins D L vs), .ro TabD Tab, .ro D2 (fun w => IntsD D2 w (.slice AV g.inp.length cV) g.inp)])).drew ?_
    have O22 : Own (zone (foldE f m R c D L vs ++ [inE D2 (.slice AV g.inp.length cV) g.inp])) W w17.drew [.map m (encL strE (keysGo (L ++ [g]) 0)), .blk g2 38 #[.int .i64 g.kind, .int .i64 g.lit, .slice AV g.inp.length cV], .blk f 56 #[.slice R L.length c, .map (some m)], .row (.slice R L.length c) 38 3 L.length (gcells L vs), .ro D (Ins D L vs), .ro TabD Tab, .ro D2 (fun w => IntsD D2 w (.slice AV g.inp.length cV) g.inp)] := O19.drew
    refine wt1 (v := .pointer (some ⟨f, 0, none⟩)) rfl (fun ρ e W => ex_move (e _ _ rfl)) rfl rfl ?_
    refine wt1 (v := .pointer (some ⟨f, 0, none⟩)) rfl (fun ρ e W => ex_move (e _ _ rfl)) rfl rfl ?_
    refine wt1 (v := .pointer (some ⟨f, 0, none⟩)) rfl (fun ρ e W => ex_nil (e _ _ rfl)) rfl rfl ?_
    refine wt1 (v := .pointer (some ⟨f, 0, none⟩)) rfl (fun ρ e W => ex_field (q := 0) fi56_0 (e _ _ rfl) rfl) rfl rfl ?_
    refine wt0 (v := .slice R L.length c) rfl (fun ρ e W hW => ex_load1 ty22 (e _ _ rfl) (hW.cell 1 0 rfl rfl)) rfl rfl ?_
    refine wt0 (v := .agg #[.int .i64 g.kind, .int .i64 g.lit, .slice AV g.inp.length cV]) rfl (fun ρ e W hW => ex_loadN (vs := [.int .i64 g.kind, .int .i64 g.lit, .slice AV g.inp.length cV]) ty38 (e _ _ rfl) rfl (hW.cells 0 0 rfl rfl)) rfl rfl ?_
    obtain ⟨g23, w24, r25, O26, hg27, hs28⟩ := own_slice O22 el22 ze38 1 [(0, .agg #[.int .i64 g.kind, .int .i64 g.lit, .slice AV g.inp.length cV])] (cs := #[.int .i64 g.kind, .int .i64 g.lit, .slice AV g.inp.length cV]) (by decide) (by kernel_rfl)
    refine wt2 (v := .slice (some ⟨g23, 0, none⟩) 1 1) rfl (fun ρ e => r25 ρ _ _ _ _ _ _ (e.parts rfl)) rfl rfl (O26.re [2, 3, 5, 6, 7] rfl : Own (zone (foldE f m R c D L vs ++ [inE D2 (.slice AV g.inp.length cV) g.inp])) W w24 [.blk g2 38 #[.int .i64 g.kind, .int .i64 g.lit, .slice AV g.inp.length cV], .blk f 56 #[.slice R L.length c, .map (some m)], .ro D (Ins D L vs), .ro TabD Tab, .ro D2 (fun w => IntsD D2 w (.slice AV g.inp.length cV) g.inp)]) ?_
    obtain ⟨A29, c30, w31, r32, O33, hz34, hc35⟩ := own_app1 (O26.re [4, 0, 1, 2, 3, 5, 6, 7] rfl : Own (zone (foldE f m R c D L vs ++ [inE D2 (.slice AV g.inp.length cV) g.inp])) W w24 [.row (.slice R L.length c) 38 3 L.length (gcells L vs), .blk g23 38 #[.int .i64 g.kind, .int .i64 g.lit, .slice AV g.inp.length cV], .map m (encL strE (keysGo (L ++ [g]) 0)), .blk g2 38 #[.int .i64 g.kind, .int .i64 g.lit, .slice AV g.inp.length cV], .blk f 56 #[.slice R L.length c, .map (some m)], .ro D (Ins D L vs), .ro TabD Tab, .ro D2 (fun w => IntsD D2 w (.slice AV g.inp.length cV) g.inp)]) ap22 ((O26.re [4, 0, 1, 2, 3, 5, 6, 7] rfl : Own (zone (foldE f m R c D L vs ++ [inE D2 (.slice AV g.inp.length cV) g.inp])) W w24 [.row (.slice R L.length c) 38 3 L.length (gcells L vs), .blk g23 38 #[.int .i64 g.kind, .int .i64 g.lit, .slice AV g.inp.length cV], .map m (encL strE (keysGo (L ++ [g]) 0)), .blk g2 38 #[.int .i64 g.kind, .int .i64 g.lit, .slice AV g.inp.length cV], .blk f 56 #[.slice R L.length c, .map (some m)], .ro D (Ins D L vs), .ro TabD Tab, .ro D2 (fun w => IntsD D2 w (.slice AV g.inp.length cV) g.inp)]).blk 1 rfl) (cells := [.int .i64 g.kind, .int .i64 g.lit, .slice AV g.inp.length cV]) rfl rfl (by omega) (by omega) (ys := (gcells (L ++ [g]) (vs ++ [Value.slice AV g.inp.length cV]))) (gcells_snoc g (Value.slice AV g.inp.length cV) L vs hins.1).symm
    refine wt2 (v := .slice A29 (L.length + 1) c30) rfl (fun ρ e => r32 ρ _ _ _ _ _ _ _ (e _ _ rfl) (e _ _ rfl)) rfl rfl (O33.re [3, 4, 5, 6, 7] rfl : Own (zone (foldE f m R c D L vs ++ [inE D2 (.slice AV g.inp.length cV) g.inp])) W w31 [.blk g2 38 #[.int .i64 g.kind, .int .i64 g.lit, .slice AV g.inp.length cV], .blk f 56 #[.slice R L.length c, .map (some m)], .ro D (Ins D L vs), .ro TabD Tab, .ro D2 (fun w => IntsD D2 w (.slice AV g.inp.length cV) g.inp)]) ?_
    refine wt1 (v := .pointer (some ⟨f, 0, none⟩)) rfl (fun ρ e W => ex_nil (e _ _ rfl)) rfl rfl ?_
    refine wt1 (v := .pointer (some ⟨f, 0, none⟩)) rfl (fun ρ e W => ex_field (q := 0) fi56_0 (e _ _ rfl) rfl) rfl rfl ?_
    obtain ⟨w36, r37, O38, hs39⟩ := own_put (o := 0) (n := 1) (O33.re [4, 0, 1, 2, 3, 5, 6, 7] rfl : Own (zone (foldE f m R c D L vs ++ [inE D2 (.slice AV g.inp.length cV) g.inp])) W w31 [.blk f 56 #[.slice R L.length c, .map (some m)], .row (.slice A29 (L.length + 1) c30) 38 3 (L.length + 1) (gcells (L ++ [g]) (vs ++ [Value.slice AV g.inp.length cV])), .blk g23 38 #[.int .i64 g.kind, .int .i64 g.lit, .slice AV g.inp.length cV], .map m (encL strE (keysGo (L ++ [g]) 0)), .blk g2 38 #[.int .i64 g.kind, .int .i64 g.lit, .slice AV g.inp.length cV], .ro D (Ins D L vs), .ro TabD Tab, .ro D2 (fun w => IntsD D2 w (.slice AV g.inp.length cV) g.inp)]) ty22 (.slice A29 (L.length + 1) c30) [.slice A29 (L.length + 1) c30] (cs' := #[.slice A29 (L.length + 1) c30, .map (some m)]) rfl rfl rfl (Nat.le_of_ble_eq_true rfl) rfl
    refine wt3_none rfl (fun ρ e => r37 ρ _ _ _ _ _ _ (e _ _ rfl) (e _ _ rfl)) rfl ?_
    refine wt_nil ?_
    refine xw_next K21 ?_
    refine cw_seq (fun FK40 K40 => ?_)
    refine cw_region ?_
    refine wl_val (v := .pointer (some ⟨f, 0, none⟩)) (fun ρ e => ex_move (e _ _ rfl)) rfl rfl ?_
    refine wl_val (v := .pointer (some ⟨f, 0, none⟩)) (fun ρ e => ex_nil (e _ _ rfl)) rfl rfl ?_
    refine wl_val (v := .pointer (some ⟨f, 0, none⟩)) (fun ρ e => ex_field (q := 0) fi56_0 (e _ _ rfl) rfl) rfl rfl ?_
    refine wl_val (v := .slice A29 (L.length + 1) c30) (fun ρ e => ex_load1 ty22 (e _ _ rfl) (O38.cell 0 0 rfl rfl)) rfl rfl ?_
    refine wl_val (v := .int .i64 ((L.length + 1 : Nat) : Int)) (fun ρ e => ex_len el22 (e _ _ rfl)) rfl rfl ?_
    refine wl_val (v := .int .i64 (L.length : Int)) (fun ρ e => ex_arith (k := .i64) (u := ((L.length + 1 : Nat) : Int)) (v := 1) (e _ _ rfl) (e _ _ rfl) (congrArg some ((congrArg _ (by omega)).trans (wrap_in (u := (L.length : Int)) (by omega) (by omega))))) rfl rfl ?_
    refine wl_val (v := .int .i64 (L.length : Int)) (fun ρ e => ex_assign (e _ _ rfl)) rfl rfl ?_
    refine wl_nil ?_
    refine xw_next K40 ?_
    refine cw_ret ?_
    refine xw_ret (v := .int .i64 (L.length : Int)) (fun T hT => res1 rfl T _ (hT 4 _ rfl)) ?_
    exact find_new hx (O38.re [0, 3, 1, 5, 6, 7] rfl : Own (zone (foldE f m R c D L vs ++ [inE D2 (.slice AV g.inp.length cV) g.inp])) W w36 [.blk f 56 #[.slice A29 (L.length + 1) c30, .map (some m)], .map m (encL strE (keysGo (L ++ [g]) 0)), .row (.slice A29 (L.length + 1) c30) 38 3 (L.length + 1) (gcells (L ++ [g]) (vs ++ [Value.slice AV g.inp.length cV])), .ro D (Ins D L vs), .ro TabD Tab, .ro D2 (fun w => IntsD D2 w (.slice AV g.inp.length cV) g.inp)])
end
end Go.Proofs.YtbemhgojfehnjaaDoor
namespace Go.Proofs.YtbemhgojfehnjaaDoor
open Go Go.RowKit
theorem IntsD.cell {D : Nat → Prop} {w : World} {b o n c : Nat} {xs : List Int} (h : IntsD D w (.slice (some ⟨b, o, none⟩) n c) xs) {k : Nat} (hk : k < xs.length) : w.cell? ⟨b, o + k, none⟩ = some (.int .i64 xs[k]) := by
  obtain ⟨A, c', hv, _, _, h4⟩ := h
  obtain ⟨b', o', _, hA, hc⟩ := h4 (by omega)
  injection hv with h1 _ _
  rw [hA] at h1
  injection h1 with h1
  injection h1 with h1 h2 _
  subst h1 h2
  exact hc k _ (List.getElem?_eq_getElem hk)
theorem IntsD.form {D : Nat → Prop} {w : World} {v : Value} {xs : List Int} (h : IntsD D w v xs) (hp : 0 < xs.length) : ∃ b o c, v = .slice (some ⟨b, o, none⟩) xs.length c := by
  obtain ⟨A, c', hv, _, _, h4⟩ := h
  obtain ⟨b', o', _, hA, hc⟩ := h4 hp
  exact ⟨b', o', c', by rw [hv, hA]⟩
theorem IntsD.slice {D : Nat → Prop} {w : World} {v : Value} {xs : List Int} (h : IntsD D w v xs) : ∃ A c, v = .slice A xs.length c := by
  obtain ⟨A, c', hv, _⟩ := h
  exact ⟨A, c', hv⟩
def intCs (l : List Int) : List Value := l.map fun x => .int .i64 x
section
variable {Z : Bool → Nat → Prop} {w0 W w' : World} {LL rest : List En} {f m c k : Nat} {R : Option Addr} {D D2 : Nat → Prop} {L : List Gate} {vs : List Value} {V : Value} {g : Gate} {A : List En}
theorem Own.nilin (h : Own Z w0 W LL) : Own Z w0 W (inE (fun _ => False) (.slice none 0 0) [] :: LL) :=
  h.add (Below.refl _ _) (e := inE (fun _ => False) (.slice none 0 0) []) (inE_holds (IntsD.nil _ _) (fun _ hk => hk.elim)) (fun _ hk => hk.elim)
theorem Own.blkin {b n : Nat} {T : TypeId} {cs : Array Value} {l : List Int} (h : Own Z w0 W (.blk b T cs :: LL)) (hc : cs = (intCs l).toArray) (hn : n = l.length) (hm : n ≤ 1000000) : Own Z w0 W (inE (fun k => k = b) (.slice (some ⟨b, 0, none⟩) n n) l :: LL) := by
  subst hc
  exact h.as (e' := inE (fun k => k = b) (.slice (some ⟨b, 0, none⟩) n n) l) (inE_holds (IntsD.of_blk (h.blk 0 rfl) hn (by unfold maxLen; omega)) (fun k hk => by subst hk; exact (h.blk 0 rfl).lt)) (fun _ hk => hk) (fun ho => ho.elim)
theorem Own.rowin {v : Value} {n : Nat} {T : TypeId} {l : List Int} (h : Own Z w0 W (.row v T 1 n (intCs l) :: LL)) : Own Z w0 W (inE (fun k => v.ownBlock = some k) v l :: LL) :=
  h.as (e' := inE (fun k => v.ownBlock = some k) v l) (inE_holds (IntsD.of_row (h.row 0 rfl)) (fun k hk => (World.ownsRow.lt (h.row 0 rfl) k hk).2)) (fun _ hk => hk) (fun ho => ho.elim)
theorem FPost.eq {q q' : List Gate × Int} {e : Ending} (h : FPost A W f m q' e w') (hq : q = q') : FPost A W f m q e w' := hq ▸ h
theorem FPost.use {F : FuncId} {args : Array Value} {q : List Gate × Int} (O : Own Z w0 W (A ++ rest)) (h : Calls Tryd.prog F args W (FPost A W f m q)) :
    Calls Tryd.prog F args W fun e w' => ∃ R' c' D' vs', e = .returned (.int .i64 q.2) ∧ Own Z w0 w' (foldE f m R' c' D' q.1 vs' ++ rest) :=
  h.mono (fun _ _ ⟨R', c', D', vs', he, h'⟩ => ⟨R', c', D', vs', he, O.frame h'⟩)
theorem call_find (O : Own Z w0 W (foldE f m R c D L vs ++ (inE D2 V g.inp :: rest))) (sm : smallG g) (hL : L.length ≤ 1000000) :
    Calls Tryd.prog 80 #[.pointer (some ⟨f, 0, none⟩), .agg #[.int .i64 g.kind, .int .i64 g.lit, V]] W fun e w' => ∃ R' c' D' vs', e = .returned (.int .i64 (findG L g).2) ∧ Own Z w0 w' (foldE f m R' c' D' (findG L g).1 vs' ++ rest) := by
  have O' : Own Z w0 W ((foldE f m R c D L vs ++ [inE D2 V g.inp]) ++ rest) := by
    rw [List.append_assoc]; exact O
  exact FPost.use O' (find_ O'.hand sm hL)
theorem is1 (O : Own Z w0 W (foldE f m R c D L vs ++ rest)) {i k' : Int} (hi : 0 ≤ i ∧ i < L.length) (h : kindAt L i = k') : Calls Tryd.prog 82 #[.pointer (some ⟨f, 0, none⟩), .int .i64 i, .int .i64 k'] W fun e w' => e = .returned (.bool true) ∧ Below W.heap.size W w' := by
  obtain ⟨n, rfl⟩ : ∃ n : Nat, i = n := ⟨i.toNat, by omega⟩
  have := is_ O (i := n) (by omega) k'
  rw [h] at this
  simpa using this
theorem is0 (O : Own Z w0 W (foldE f m R c D L vs ++ rest)) {i k' : Int} (hi : 0 ≤ i ∧ i < L.length) (h : kindAt L i ≠ k') : Calls Tryd.prog 82 #[.pointer (some ⟨f, 0, none⟩), .int .i64 i, .int .i64 k'] W fun e w' => e = .returned (.bool false) ∧ Below W.heap.size W w' := by
  obtain ⟨n, rfl⟩ : ∃ n : Nat, i = n := ⟨i.toNat, by omega⟩
  have := is_ O (i := n) (by omega) k'
  rw [show (kindAt L (n : Int) == k') = false by simp [h]] at this
  exact this
end
/-- What holds of the folder's gates. -/
def okGs (L : List Gate) : Prop := ∀ g ∈ L, smallG g ∧ (g.kind = 3 → 0 < g.inp.length)
theorem notG_eq {L : List Gate} {i : Nat} (hi : i < L.length) : notG L (i : Int) = if L[i].kind = 0 then findG L ⟨1, 0, []⟩ else if L[i].kind = 1 then findG L ⟨0, 0, []⟩ else if L[i].kind = 2 then findG L ⟨2, -L[i].lit, []⟩
    else if L[i].kind = 3 then (L, L[i].inp.getD 0 0) else findG L ⟨3, 0, [(i : Int)]⟩ := by
  simp [notG, gateAt, List.getElem?_eq_getElem hi]
theorem smallI_lit (k : Int) (h : (decide (-1000000 ≤ k) && decide (k ≤ 1000000)) = true) : smallI k := by simp at h; exact h
theorem small_c {k l : Int} (hk : smallI k) (hl : smallI l) : smallG ⟨k, l, []⟩ := ⟨hk, hl, by simp, by simp⟩
theorem small_n {k : Int} {l : List Int} (hk : smallI k) (hl : ∀ x ∈ l, smallI x) (hn : l.length ≤ 1000000) : smallG ⟨k, 0, l⟩ := ⟨hk, smallI_lit 0 rfl, hl, hn⟩
end Go.Proofs.YtbemhgojfehnjaaDoor
namespace Go.Proofs.YtbemhgojfehnjaaDoor
open Go Go.RowKit
section
variable {W : World} {f m c : Nat} {R : Option Addr} {D : Nat → Prop} {L : List Gate} {vs : List Value}
theorem not_ {j : Int} (O0 : Own (zone (foldE f m R c D L vs)) W W (foldE f m R c D L vs)) (hj : 0 ≤ j ∧ j < L.length) (ok : okGs L) (hL : L.length ≤ 1000000) :
    Calls Tryd.prog 81 #[.pointer (some ⟨f, 0, none⟩), .int .i64 j] W (FPost (foldE f m R c D L vs) W f m (notG L j)) := by
  obtain ⟨i, rfl⟩ : ∃ n : Nat, j = n := ⟨j.toNat, by omega⟩
  have hi : i < L.length := by omega
  obtain ⟨r, v, rfl, hr, hv, hD, h0, h1, h2⟩ := fold_gate (rest := []) O0 hi
  obtain ⟨AI, cI, rfl⟩ := hD.slice
  have sl : -1000000 ≤ L[i].lit ∧ L[i].lit ≤ 1000000 := (ok _ (List.getElem_mem hi)).1.2.1
  refine sx_enter (args := [.pointer (some ⟨f, 0, none⟩), .int .i64 (i : Int)]) Tryd.func81 rfl rfl (by simp) ?_
  refine cw_seq (fun FK1 K1 => ?_)
  refine cw_region ?_
  refine wl_val (v := .int .i64 0) (fun ρ e => ex_assign (e _ _ rfl)) rfl rfl ?_
  refine wl_nil ?_
  refine xw_next K1 ?_
  refine cw_seq (fun FK2 K2 => ?_)
  refine cw_seq (fun FK3 K3 => ?_)
  refine cw_region ?_
  refine wl_val (v := .pointer (some ⟨f, 0, none⟩)) (fun ρ e => ex_move (e _ _ rfl)) rfl rfl ?_
  refine wl_val (v := .pointer (some ⟨f, 0, none⟩)) (fun ρ e => ex_nil (e _ _ rfl)) rfl rfl ?_
  refine wl_val (v := .pointer (some ⟨f, 0, none⟩)) (fun ρ e => ex_field (q := 0) fi56_0 (e _ _ rfl) rfl) rfl rfl ?_
  refine wl_val (v := .slice (some ⟨r, 0, none⟩) L.length c) (fun ρ e => ex_load1 ty22 (e _ _ rfl) (O0.cell 0 0 rfl rfl)) rfl rfl ?_
  refine wl_val (v := .int .i64 (i : Int)) (fun ρ e => ex_move (e _ _ rfl)) rfl rfl ?_
  refine wl_val (v := .pointer (some ⟨r, i * 3, none⟩)) (fun ρ e => ex_idx (q := i * 3) el22 (e _ _ rfl) (e _ _ rfl) hi (by omega)) rfl rfl ?_
  refine wl_val (v := .agg #[.int .i64 (L[i].kind), .int .i64 (L[i].lit), .slice AI (L[i].inp.length) cI]) (fun ρ e => ex_loadN (vs := [.int .i64 (L[i].kind), .int .i64 (L[i].lit), .slice AI (L[i].inp.length) cI]) ty38 (e _ _ rfl) rfl (cells3 h0 h1 h2)) rfl rfl ?_
  obtain ⟨g4, w5, r6, O7, hg8, hs9⟩ := own_alloc O0 38 ze38 rfl
  refine wl_val (v := .pointer (some ⟨g4, 0, none⟩)) (fun ρ e => r6 ρ _ _ _ _ _) rfl rfl ?_
  obtain ⟨w10, r11, O12, hs13⟩ := own_put (o := 0) (n := 3) O7 ty38 (.agg #[.int .i64 (L[i].kind), .int .i64 (L[i].lit), .slice AI (L[i].inp.length) cI]) [.int .i64 (L[i].kind), .int .i64 (L[i].lit), .slice AI (L[i].inp.length) cI] (cs' := #[.int .i64 (L[i].kind), .int .i64 (L[i].lit), .slice AI (L[i].inp.length) cI]) rfl rfl rfl (Nat.le_of_ble_eq_true rfl) rfl
  refine wl_none (fun ρ e => r11 ρ _ _ _ _ _ _ (e _ _ rfl) (e _ _ rfl)) rfl ?_
  refine wl_nil ?_
  refine xw_next K3 ?_
  refine cw_seq (fun FK14 K14 => ?_)
  refine cw_region ?_
  refine wl_val (v := .pointer (some ⟨g4, 0, none⟩)) (fun ρ e => ex_field (q := 0) fi38_0 (e _ _ rfl) rfl) rfl rfl ?_
  refine wl_val (v := .int .i64 (L[i].kind)) (fun ρ e => ex_load1 ty3 (e _ _ rfl) (O12.cell 0 0 rfl rfl)) rfl rfl ?_
  refine wl_nil ?_
  refine xw_next K14 ?_
  refine cw_block ?_
  refine cw_seq (fun FK15 K15 => ?_)
  refine cw_region ?_
  by_cases c16 : L[i].kind = 0
  · skip
    refine wl_val (v := .bool true) (fun ρ e => ex_cmp (u := L[i].kind) (v := 0) (e _ _ rfl) (e _ _ rfl) (eql1 (by omega))) rfl rfl ?_
    refine wl_val (v := .bool true) (fun ρ e => ex_assign (e _ _ rfl)) rfl rfl ?_
    refine wl_nil ?_
    refine xw_next K15 ?_
    refine cw_true rfl ?_
    refine cw_seq (fun FK17 K17 => ?_)
    refine cw_region ?_
    refine wl_val (v := .pointer (some ⟨f, 0, none⟩)) (fun ρ e => ex_move (e _ _ rfl)) rfl rfl ?_
    refine wl_val (v := .agg #[.int .i64 1, .int .i64 0, .slice none 0 0]) (fun ρ e => ex_build (cells := #[.int .i64 1, .int .i64 0, .slice none 0 0]) st38 (e.parts rfl) rfl) rfl rfl ?_
    refine wl_call (args := [.pointer (some ⟨f, 0, none⟩), .agg #[.int .i64 1, .int .i64 0, .slice none 0 0]]) in_80 rfl rfl rfl ?_
    have O18 : Own (zone (foldE f m (some ⟨r, 0, none⟩) c D L vs)) W w10 [.ro (fun _ => False) (fun w => IntsD (fun _ => False) w (.slice none 0 0) ([])), .blk g4 38 #[.int .i64 (L[i].kind), .int .i64 (L[i].lit), .slice AI (L[i].inp.length) cI], .blk f 56 #[.slice (some ⟨r, 0, none⟩) L.length c, .map (some m)], .map m (encL strE (keysGo L 0)), .row (.slice (some ⟨r, 0, none⟩) L.length c) 38 3 L.length (gcells L vs), .ro D (Ins D L vs), .ro TabD Tab] := O12.nilin
    refine (call_find (f := f) (m := m) (R := (some ⟨r, 0, none⟩)) (c := c) (D := D) (L := L) (vs := vs) (D2 := (fun _ => False)) (V := .slice none 0 0) (g := ⟨1, 0, []⟩) (rest := [.blk g4 38 #[.int .i64 (L[i].kind), .int .i64 (L[i].lit), .slice AI (L[i].inp.length) cI]]) (O18.re [2, 3, 4, 5, 6, 0, 1] rfl : Own (zone (foldE f m (some ⟨r, 0, none⟩) c D L vs)) W w10 [.blk f 56 #[.slice (some ⟨r, 0, none⟩) L.length c, .map (some m)], .map m (encL strE (keysGo L 0)), .row (.slice (some ⟨r, 0, none⟩) L.length c) 38 3 L.length (gcells L vs), .ro D (Ins D L vs), .ro TabD Tab, .ro (fun _ => False) (fun w => IntsD (fun _ => False) w (.slice none 0 0) ([])), .blk g4 38 #[.int .i64 (L[i].kind), .int .i64 (L[i].lit), .slice AI (L[i].inp.length) cI]]) (small_c (smallI_lit 1 rfl) (smallI_lit 0 rfl)) hL).mono ?_
    rintro _ w19 ⟨R20, c21, D22, vs23, rfl, O24⟩
    refine ⟨_, rfl, ?_⟩
    refine wl_val (v := .int .i64 ((findG L ⟨1, 0, []⟩).2)) (fun ρ e => ex_assign (e _ _ rfl)) rfl rfl ?_
    refine wl_nil ?_
    refine xw_next K17 ?_
    refine cw_ret ?_
    refine xw_blockret ?_
    refine xw_past (by intro h; cases h) ?_
    refine xw_ret (v := .int .i64 ((findG L ⟨1, 0, []⟩).2)) (fun T hT => res1 rfl T _ (hT 4 _ rfl)) ?_
    exact FPost.eq ⟨_, _, _, _, rfl, (O24.re [0, 1, 2, 3, 4] rfl : Own (zone (foldE f m (some ⟨r, 0, none⟩) c D L vs)) W w19 [.blk f 56 #[.slice R20 (((findG L ⟨1, 0, []⟩).1).length) c21, .map (some m)], .map m (encL strE (keysGo ((findG L ⟨1, 0, []⟩).1) 0)), .row (.slice R20 (((findG L ⟨1, 0, []⟩).1).length) c21) 38 3 (((findG L ⟨1, 0, []⟩).1).length) (gcells ((findG L ⟨1, 0, []⟩).1) vs23), .ro D22 (Ins D22 ((findG L ⟨1, 0, []⟩).1) vs23), .ro TabD Tab])⟩ (by rw [notG_eq hi, if_pos c16])
  · skip
    refine wl_val (v := .bool false) (fun ρ e => ex_cmp (u := L[i].kind) (v := 0) (e _ _ rfl) (e _ _ rfl) (eql0 (by omega))) rfl rfl ?_
    refine wl_val (v := .bool false) (fun ρ e => ex_assign (e _ _ rfl)) rfl rfl ?_
    refine wl_nil ?_
    refine xw_next K15 ?_
    refine cw_false rfl ?_
    refine cw_seq (fun FK25 K25 => ?_)
    refine cw_region ?_
    by_cases c26 : L[i].kind = 1
    · skip
      refine wl_val (v := .bool true) (fun ρ e => ex_cmp (u := L[i].kind) (v := 1) (e _ _ rfl) (e _ _ rfl) (eql1 (by omega))) rfl rfl ?_
      refine wl_val (v := .bool true) (fun ρ e => ex_assign (e _ _ rfl)) rfl rfl ?_
      refine wl_nil ?_
      refine xw_next K25 ?_
      refine cw_true rfl ?_
      refine cw_seq (fun FK27 K27 => ?_)
      refine cw_region ?_
      refine wl_val (v := .pointer (some ⟨f, 0, none⟩)) (fun ρ e => ex_move (e _ _ rfl)) rfl rfl ?_
      refine wl_val (v := .agg #[.int .i64 0, .int .i64 0, .slice none 0 0]) (fun ρ e => ex_build (cells := #[.int .i64 0, .int .i64 0, .slice none 0 0]) st38 (e.parts rfl) rfl) rfl rfl ?_
      refine wl_call (args := [.pointer (some ⟨f, 0, none⟩), .agg #[.int .i64 0, .int .i64 0, .slice none 0 0]]) in_80 rfl rfl rfl ?_
      have O28 : Own (zone (foldE f m (some ⟨r, 0, none⟩) c D L vs)) W w10 [.ro (fun _ => False) (fun w => IntsD (fun _ => False) w (.slice none 0 0) ([])), .blk g4 38 #[.int .i64 (L[i].kind), .int .i64 (L[i].lit), .slice AI (L[i].inp.length) cI], .blk f 56 #[.slice (some ⟨r, 0, none⟩) L.length c, .map (some m)], .map m (encL strE (keysGo L 0)), .row (.slice (some ⟨r, 0, none⟩) L.length c) 38 3 L.length (gcells L vs), .ro D (Ins D L vs), .ro TabD Tab] := O12.nilin
      refine (call_find (f := f) (m := m) (R := (some ⟨r, 0, none⟩)) (c := c) (D := D) (L := L) (vs := vs) (D2 := (fun _ => False)) (V := .slice none 0 0) (g := ⟨0, 0, []⟩) (rest := [.blk g4 38 #[.int .i64 (L[i].kind), .int .i64 (L[i].lit), .slice AI (L[i].inp.length) cI]]) (O28.re [2, 3, 4, 5, 6, 0, 1] rfl : Own (zone (foldE f m (some ⟨r, 0, none⟩) c D L vs)) W w10 [.blk f 56 #[.slice (some ⟨r, 0, none⟩) L.length c, .map (some m)], .map m (encL strE (keysGo L 0)), .row (.slice (some ⟨r, 0, none⟩) L.length c) 38 3 L.length (gcells L vs), .ro D (Ins D L vs), .ro TabD Tab, .ro (fun _ => False) (fun w => IntsD (fun _ => False) w (.slice none 0 0) ([])), .blk g4 38 #[.int .i64 (L[i].kind), .int .i64 (L[i].lit), .slice AI (L[i].inp.length) cI]]) (small_c (smallI_lit 0 rfl) (smallI_lit 0 rfl)) hL).mono ?_
      rintro _ w29 ⟨R30, c31, D32, vs33, rfl, O34⟩
      refine ⟨_, rfl, ?_⟩
      refine wl_val (v := .int .i64 ((findG L ⟨0, 0, []⟩).2)) (fun ρ e => ex_assign (e _ _ rfl)) rfl rfl ?_
      refine wl_nil ?_
      refine xw_next K27 ?_
      refine cw_ret ?_
      refine xw_blockret ?_
      refine xw_past (by intro h; cases h) ?_
      refine xw_ret (v := .int .i64 ((findG L ⟨0, 0, []⟩).2)) (fun T hT => res1 rfl T _ (hT 4 _ rfl)) ?_
      exact FPost.eq ⟨_, _, _, _, rfl, (O34.re [0, 1, 2, 3, 4] rfl : Own (zone (foldE f m (some ⟨r, 0, none⟩) c D L vs)) W w29 [.blk f 56 #[.slice R30 (((findG L ⟨0, 0, []⟩).1).length) c31, .map (some m)], .map m (encL strE (keysGo ((findG L ⟨0, 0, []⟩).1) 0)), .row (.slice R30 (((findG L ⟨0, 0, []⟩).1).length) c31) 38 3 (((findG L ⟨0, 0, []⟩).1).length) (gcells ((findG L ⟨0, 0, []⟩).1) vs33), .ro D32 (Ins D32 ((findG L ⟨0, 0, []⟩).1) vs33), .ro TabD Tab])⟩ (by rw [notG_eq hi, if_neg c16, if_pos c26])
    · skip
      refine wl_val (v := .bool false) (fun ρ e => ex_cmp (u := L[i].kind) (v := 1) (e _ _ rfl) (e _ _ rfl) (eql0 (by omega))) rfl rfl ?_
      refine wl_val (v := .bool false) (fun ρ e => ex_assign (e _ _ rfl)) rfl rfl ?_
      refine wl_nil ?_
      refine xw_next K25 ?_
      refine cw_false rfl ?_
      refine cw_seq (fun FK35 K35 => ?_)
      refine cw_region ?_
      by_cases c36 : L[i].kind = 2
      · skip
        refine wl_val (v := .bool true) (fun ρ e => ex_cmp (u := L[i].kind) (v := 2) (e _ _ rfl) (e _ _ rfl) (eql1 (by omega))) rfl rfl ?_
        refine wl_val (v := .bool true) (fun ρ e => ex_assign (e _ _ rfl)) rfl rfl ?_
        refine wl_nil ?_
        refine xw_next K35 ?_
        refine cw_true rfl ?_
        refine cw_seq (fun FK37 K37 => ?_)
        refine cw_region ?_
        refine wl_val (v := .pointer (some ⟨f, 0, none⟩)) (fun ρ e => ex_move (e _ _ rfl)) rfl rfl ?_
        refine wl_val (v := .pointer (some ⟨g4, 1, none⟩)) (fun ρ e => ex_field (q := 1) fi38_1 (e _ _ rfl) rfl) rfl rfl ?_
        refine wl_val (v := .int .i64 (L[i].lit)) (fun ρ e => ex_load1 ty3 (e _ _ rfl) (O12.cell 0 1 rfl rfl)) rfl rfl ?_
        refine wl_val (v := .int .i64 (-(L[i].lit))) (fun ρ e => ex_minus (e _ _ rfl) (wrap_in (by omega) (by omega))) rfl rfl ?_
        refine wl_val (v := .agg #[.int .i64 2, .int .i64 (-(L[i].lit)), .slice none 0 0]) (fun ρ e => ex_build (cells := #[.int .i64 2, .int .i64 (-(L[i].lit)), .slice none 0 0]) st38 (e.parts rfl) rfl) rfl rfl ?_
        refine wl_call (args := [.pointer (some ⟨f, 0, none⟩), .agg #[.int .i64 2, .int .i64 (-(L[i].lit)), .slice none 0 0]]) in_80 rfl rfl rfl ?_
        have O38 : Own (zone (foldE f m (some ⟨r, 0, none⟩) c D L vs)) W w10 [.ro (fun _ => False) (fun w => IntsD (fun _ => False) w (.slice none 0 0) ([])), .blk g4 38 #[.int .i64 (L[i].kind), .int .i64 (L[i].lit), .slice AI (L[i].inp.length) cI], .blk f 56 #[.slice (some ⟨r, 0, none⟩) L.length c, .map (some m)], .map m (encL strE (keysGo L 0)), .row (.slice (some ⟨r, 0, none⟩) L.length c) 38 3 L.length (gcells L vs), .ro D (Ins D L vs), .ro TabD Tab] := O12.nilin
        refine (call_find (f := f) (m := m) (R := (some ⟨r, 0, none⟩)) (c := c) (D := D) (L := L) (vs := vs) (D2 := (fun _ => False)) (V := .slice none 0 0) (g := ⟨2, (-(L[i].lit)), []⟩) (rest := [.blk g4 38 #[.int .i64 (L[i].kind), .int .i64 (L[i].lit), .slice AI (L[i].inp.length) cI]]) (O38.re [2, 3, 4, 5, 6, 0, 1] rfl : Own (zone (foldE f m (some ⟨r, 0, none⟩) c D L vs)) W w10 [.blk f 56 #[.slice (some ⟨r, 0, none⟩) L.length c, .map (some m)], .map m (encL strE (keysGo L 0)), .row (.slice (some ⟨r, 0, none⟩) L.length c) 38 3 L.length (gcells L vs), .ro D (Ins D L vs), .ro TabD Tab, .ro (fun _ => False) (fun w => IntsD (fun _ => False) w (.slice none 0 0) ([])), .blk g4 38 #[.int .i64 (L[i].kind), .int .i64 (L[i].lit), .slice AI (L[i].inp.length) cI]]) (small_c (smallI_lit 2 rfl) (by have := (ok _ (List.getElem_mem hi)).1.2.1; unfold smallI at this ⊢; omega)) hL).mono ?_
        rintro _ w39 ⟨R40, c41, D42, vs43, rfl, O44⟩
        refine ⟨_, rfl, ?_⟩
        refine wl_val (v := .int .i64 ((findG L ⟨2, (-(L[i].lit)), []⟩).2)) (fun ρ e => ex_assign (e _ _ rfl)) rfl rfl ?_
        refine wl_nil ?_
        refine xw_next K37 ?_
        refine cw_ret ?_
        refine xw_blockret ?_
        refine xw_past (by intro h; cases h) ?_
        refine xw_ret (v := .int .i64 ((findG L ⟨2, (-(L[i].lit)), []⟩).2)) (fun T hT => res1 rfl T _ (hT 4 _ rfl)) ?_
        exact FPost.eq ⟨_, _, _, _, rfl, (O44.re [0, 1, 2, 3, 4] rfl : Own (zone (foldE f m (some ⟨r, 0, none⟩) c D L vs)) W w39 [.blk f 56 #[.slice R40 (((findG L ⟨2, (-(L[i].lit)), []⟩).1).length) c41, .map (some m)], .map m (encL strE (keysGo ((findG L ⟨2, (-(L[i].lit)), []⟩).1) 0)), .row (.slice R40 (((findG L ⟨2, (-(L[i].lit)), []⟩).1).length) c41) 38 3 (((findG L ⟨2, (-(L[i].lit)), []⟩).1).length) (gcells ((findG L ⟨2, (-(L[i].lit)), []⟩).1) vs43), .ro D42 (Ins D42 ((findG L ⟨2, (-(L[i].lit)), []⟩).1) vs43), .ro TabD Tab])⟩ (by rw [notG_eq hi, if_neg c16, if_neg c26, if_pos c36])
      · skip
        refine wl_val (v := .bool false) (fun ρ e => ex_cmp (u := L[i].kind) (v := 2) (e _ _ rfl) (e _ _ rfl) (eql0 (by omega))) rfl rfl ?_
        refine wl_val (v := .bool false) (fun ρ e => ex_assign (e _ _ rfl)) rfl rfl ?_
        refine wl_nil ?_
        refine xw_next K35 ?_
        refine cw_false rfl ?_
        refine cw_seq (fun FK45 K45 => ?_)
        refine cw_region ?_
        by_cases c46 : L[i].kind = 3
        · skip
          have hn3 : 0 < L[i].inp.length := (ok _ (List.getElem_mem hi)).2 c46
          obtain ⟨b, o, cJ, hbI⟩ := hD.form hn3
          refine wl_val (v := .bool true) (fun ρ e => ex_cmp (u := L[i].kind) (v := 3) (e _ _ rfl) (e _ _ rfl) (eql1 (by omega))) rfl rfl ?_
          refine wl_val (v := .bool true) (fun ρ e => ex_assign (e _ _ rfl)) rfl rfl ?_
          refine wl_nil ?_
          refine xw_next K45 ?_
          refine cw_true rfl ?_
          refine cw_seq (fun FK47 K47 => ?_)
          refine cw_region ?_
          refine wl_val (v := .pointer (some ⟨g4, 2, none⟩)) (fun ρ e => ex_field (q := 2) fi38_2 (e _ _ rfl) rfl) rfl rfl ?_
          refine wl_val (v := .slice AI (L[i].inp.length) cI) (fun ρ e => ex_load1 ty36 (e _ _ rfl) (O12.cell 0 2 rfl rfl)) rfl rfl ?_
          refine wl_val (v := .pointer (some ⟨b, o, none⟩)) (fun ρ e => ex_idx (q := o) (o := o) el36 ((e _ _ rfl).trans hbI) (i := 0) (e _ _ rfl) hn3 (by omega)) rfl rfl ?_
          refine wl_val (v := .int .i64 (L[i].inp[0])) (fun ρ e => ex_load1 ty3 (e _ _ rfl) ((((O12.ro 4 rfl : Ins D L vs _).2 i _ _ (List.getElem?_eq_getElem hi) (hv.trans (congrArg some hbI))).cell hn3))) rfl rfl ?_
          refine wl_val (v := .int .i64 (L[i].inp[0])) (fun ρ e => ex_assign (e _ _ rfl)) rfl rfl ?_
          refine wl_nil ?_
          refine xw_next K47 ?_
          refine cw_ret ?_
          refine xw_blockret ?_
          refine xw_past (by intro h; cases h) ?_
          refine xw_ret (v := .int .i64 (L[i].inp[0])) (fun T hT => res1 rfl T _ (hT 4 _ rfl)) ?_
          refine FPost.eq (q' := (L, L[i].inp[0])) ⟨_, _, _, _, rfl, (O12.re [1, 2, 3, 4, 5] rfl : Own (zone (foldE f m (some ⟨r, 0, none⟩) c D L vs)) W w10 [.blk f 56 #[.slice (some ⟨r, 0, none⟩) L.length c, .map (some m)], .map m (encL strE (keysGo L 0)), .row (.slice (some ⟨r, 0, none⟩) L.length c) 38 3 L.length (gcells L vs), .ro D (Ins D L vs), .ro TabD Tab])⟩ ?_
          rw [notG_eq hi, if_neg c16, if_neg c26, if_neg c36, if_pos c46]
          simp [List.getElem?_eq_getElem hn3]
        · skip
          refine wl_val (v := .bool false) (fun ρ e => ex_cmp (u := L[i].kind) (v := 3) (e _ _ rfl) (e _ _ rfl) (eql0 (by omega))) rfl rfl ?_
          refine wl_val (v := .bool false) (fun ρ e => ex_assign (e _ _ rfl)) rfl rfl ?_
          refine wl_nil ?_
          refine xw_next K45 ?_
          refine cw_false rfl ?_
          refine cw_skip ?_
          refine xw_block ?_
          refine xw_next K2 ?_
          refine cw_seq (fun FK48 K48 => ?_)
          refine cw_region ?_
          refine wl_val (v := .pointer (some ⟨f, 0, none⟩)) (fun ρ e => ex_move (e _ _ rfl)) rfl rfl ?_
          refine wl_val (v := .int .i64 (i : Int)) (fun ρ e => ex_move (e _ _ rfl)) rfl rfl ?_
          obtain ⟨g49, w50, r51, O52, hg53, hs54⟩ := own_slice O12 el36 ze3 1 [(0, .int .i64 (i : Int))] (cs := #[.int .i64 (i : Int)]) (by decide) (by kernel_rfl)
          refine wl_val (v := .slice (some ⟨g49, 0, none⟩) 1 1) (fun ρ e => r51 ρ _ _ _ _ _ _ (e.parts rfl)) rfl rfl ?_
          refine wl_val (v := .agg #[.int .i64 3, .int .i64 0, .slice (some ⟨g49, 0, none⟩) 1 1]) (fun ρ e => ex_build (cells := #[.int .i64 3, .int .i64 0, .slice (some ⟨g49, 0, none⟩) 1 1]) st38 (e.parts rfl) rfl) rfl rfl ?_
          refine wl_call (args := [.pointer (some ⟨f, 0, none⟩), .agg #[.int .i64 3, .int .i64 0, .slice (some ⟨g49, 0, none⟩) 1 1]]) in_80 rfl rfl rfl ?_
          have O55 : Own (zone (foldE f m (some ⟨r, 0, none⟩) c D L vs)) W w50 [.ro (fun k => k = g49) (fun w => IntsD (fun k => k = g49) w (.slice (some ⟨g49, 0, none⟩) 1 1) ([(i : Int)])), .blk g4 38 #[.int .i64 (L[i].kind), .int .i64 (L[i].lit), .slice AI (L[i].inp.length) cI], .blk f 56 #[.slice (some ⟨r, 0, none⟩) L.length c, .map (some m)], .map m (encL strE (keysGo L 0)), .row (.slice (some ⟨r, 0, none⟩) L.length c) 38 3 L.length (gcells L vs), .ro D (Ins D L vs), .ro TabD Tab] := Own.blkin (l := [(i : Int)]) O52 rfl rfl (by decide)
          refine (call_find (f := f) (m := m) (R := (some ⟨r, 0, none⟩)) (c := c) (D := D) (L := L) (vs := vs) (D2 := (fun k => k = g49)) (V := .slice (some ⟨g49, 0, none⟩) 1 1) (g := ⟨3, 0, [(i : Int)]⟩) (rest := [.blk g4 38 #[.int .i64 (L[i].kind), .int .i64 (L[i].lit), .slice AI (L[i].inp.length) cI]]) (O55.re [2, 3, 4, 5, 6, 0, 1] rfl : Own (zone (foldE f m (some ⟨r, 0, none⟩) c D L vs)) W w50 [.blk f 56 #[.slice (some ⟨r, 0, none⟩) L.length c, .map (some m)], .map m (encL strE (keysGo L 0)), .row (.slice (some ⟨r, 0, none⟩) L.length c) 38 3 L.length (gcells L vs), .ro D (Ins D L vs), .ro TabD Tab, .ro (fun k => k = g49) (fun w => IntsD (fun k => k = g49) w (.slice (some ⟨g49, 0, none⟩) 1 1) ([(i : Int)])), .blk g4 38 #[.int .i64 (L[i].kind), .int .i64 (L[i].lit), .slice AI (L[i].inp.length) cI]]) (small_n (smallI_lit 3 rfl) (by intro x hx; rw [List.mem_singleton.1 hx]; unfold smallI; omega) (Nat.le_of_ble_eq_true rfl)) hL).mono ?_
          rintro _ w56 ⟨R57, c58, D59, vs60, rfl, O61⟩
          refine ⟨_, rfl, ?_⟩
          refine wl_val (v := .int .i64 ((findG L ⟨3, 0, [(i : Int)]⟩).2)) (fun ρ e => ex_assign (e _ _ rfl)) rfl rfl ?_
          refine wl_nil ?_
          refine xw_next K48 ?_
          refine cw_ret ?_
          refine xw_ret (v := .int .i64 ((findG L ⟨3, 0, [(i : Int)]⟩).2)) (fun T hT => res1 rfl T _ (hT 4 _ rfl)) ?_
          exact FPost.eq ⟨_, _, _, _, rfl, (O61.re [0, 1, 2, 3, 4] rfl : Own (zone (foldE f m (some ⟨r, 0, none⟩) c D L vs)) W w56 [.blk f 56 #[.slice R57 (((findG L ⟨3, 0, [(i : Int)]⟩).1).length) c58, .map (some m)], .map m (encL strE (keysGo ((findG L ⟨3, 0, [(i : Int)]⟩).1) 0)), .row (.slice R57 (((findG L ⟨3, 0, [(i : Int)]⟩).1).length) c58) 38 3 (((findG L ⟨3, 0, [(i : Int)]⟩).1).length) (gcells ((findG L ⟨3, 0, [(i : Int)]⟩).1) vs60), .ro D59 (Ins D59 ((findG L ⟨3, 0, [(i : Int)]⟩).1) vs60), .ro TabD Tab])⟩ (by rw [notG_eq hi, if_neg c16, if_neg c26, if_neg c36, if_neg c46])
end
end Go.Proofs.YtbemhgojfehnjaaDoor
