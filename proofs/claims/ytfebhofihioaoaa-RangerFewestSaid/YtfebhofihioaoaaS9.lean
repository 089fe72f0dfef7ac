/- The program's park in memory; the rangers of a set. -/
import Derived.Test.YtfebhofihioaoaaS8
import Derived.Test.YtfebhofihioaoaaS5
namespace Go.Proofs.Ytfebhofihioaoaa
set_option linter.unusedVariables false
set_option linter.unusedSimpArgs false
open Go Go.RowKit

/-- The posts whose rangers can come to a spot, as bits. -/
def fromN (x : Prk) (s : Nat) : Nat := bitsOf (fun i => frX x i s) x.n
theorem bits64 {x : Prk} (hn : x.n ≤ 6) (p : Nat → Bool) : bitsOf p x.n < 64 := by
  have h := bitsOf_lt p x.n
  have h1 : (2 : Nat) ^ x.n ≤ 2 ^ 6 := Nat.pow_le_pow_right (by decide) hn
  omega
/-- The program's park, at block P; its row of needs is v. -/
structure ParkAt (W : World) (P : Nat) (x : Prk) (A : Option Addr) (c : Nat) (v : Value) : Prop where
  lt : P < W.heap.size
  sp : W.cell? ⟨P, 0, none⟩ = some (.slice A x.sp.length c)
  alo : W.cell? ⟨P, 1, none⟩ = some (I x.alo)
  ahi : W.cell? ⟨P, 2, none⟩ = some (I x.ahi)
  needs : W.cell? ⟨P, 3, none⟩ = some v
  from_ : ∀ s, s < x.n → W.cell? ⟨P, 4 + s, none⟩ = some (I (fromN x s))
  row : Fours W W.heap.size A x.sp
theorem ParkAt.call {W W' : World} {P : Nat} {x : Prk} {A : Option Addr} {c : Nat} {v : Value} (h : ParkAt W P x A c v) (hB : Below W.heap.size W W') : ParkAt W' P x A c v where
  lt := Nat.lt_of_lt_of_le h.lt hB.size
  sp := (hB.cell (p := ⟨P, 0, none⟩) h.lt).trans h.sp
  alo := (hB.cell (p := ⟨P, 1, none⟩) h.lt).trans h.alo
  ahi := (hB.cell (p := ⟨P, 2, none⟩) h.lt).trans h.ahi
  needs := (hB.cell (p := ⟨P, 3, none⟩) h.lt).trans h.needs
  from_ := fun s hs => (hB.cell (p := ⟨P, 4 + s, none⟩) h.lt).trans (h.from_ s hs)
  row := (h.row.below hB).more hB.size
/-- The posts whose rangers can come to one of the first spots of a set. -/
def orTo (x : Prk) (S : Nat) : Nat → Nat
  | 0 => 0
  | k + 1 => if S.testBit k then orTo x S k ||| fromN x k else orTo x S k
theorem orTo_lt {x : Prk} (hn : x.n ≤ 6) (S : Nat) : ∀ k, orTo x S k < 64
  | 0 => by simp [orTo]
  | k + 1 => by
    have ih := orTo_lt hn S k
    simp only [orTo]
    split
    · exact Nat.or_lt_two_pow (n := 6) ih (bits64 hn _)
    · exact ih
theorem orTo_bit (x : Prk) (S i : Nat) : ∀ k, (orTo x S k).testBit i = true ↔ i < x.n ∧ ∃ s, s < k ∧ S.testBit s = true ∧ frX x i s = true
  | 0 => by simp [orTo]
  | k + 1 => by
    have ih := orTo_bit x S i k
    have h1 : (orTo x S (k + 1)).testBit i = true ↔ (orTo x S k).testBit i = true ∨ (S.testBit k = true ∧ (fromN x k).testBit i = true) := by
      simp only [orTo]
      split
      · rename_i h; rw [Nat.testBit_or]; simp [h]
      · rename_i h; simp [h]
    rw [h1, ih]
    simp only [fromN, bitsOf_bit, Bool.and_eq_true, decide_eq_true_eq]
    constructor
    · rintro (⟨h, s, h2, h3⟩ | ⟨h2, h3, h4⟩)
      · exact ⟨h, s, by omega, h3⟩
      · exact ⟨h3, k, by omega, h2, h4⟩
    · rintro ⟨h, s, h2, h3, h4⟩
      rcases Nat.lt_succ_iff_lt_or_eq.1 h2 with h5 | rfl
      · exact .inl ⟨h, s, h5, h3, h4⟩
      · exact .inr ⟨h3, h, h4⟩
theorem orTo_can (x : Prk) (S : Nat) {i : Nat} (hi : i < x.n) : (orTo x S x.n).testBit i = canB x.n (frX x) S i := by
  rw [Bool.eq_iff_iff, orTo_bit, canB_iff]
  exact ⟨fun h => h.2, fun h => ⟨hi, h⟩⟩
/-- What a shift and a mask give. -/
theorem bit_step {S k : Nat} (hS : S < 64) : ((S : Int) / 2 ^ k) = ((S / 2 ^ k : Nat) : Int) ∧ Go.bits BinOp.and IntKind.i64 ((S / 2 ^ k : Nat) : Int) 1 = ((if S.testBit k then 1 else 0 : Nat) : Int) := by
  have hq : S / 2 ^ k < 64 := Nat.lt_of_le_of_lt (Nat.div_le_self _ _) hS
  refine ⟨by push_cast; rfl, ?_⟩
  rw [and_one hq, bit_div]
set_option maxRecDepth 100000 in
set_option maxHeartbeats 2000000 in
theorem rangers48 (x : Prk) (P : Nat) (A : Option Addr) (c : Nat) (v : Value) (p : Nat → Int) (S : Nat) (w : World) (hx : PrkOk x) (hP : ParkAt w P x A c v) (hp : ∀ i, i < x.n → 0 ≤ p i ∧ p i ≤ 12) (hS : S < 64) :
    Calls Try.prog 48 #[.pointer (some ⟨P, 0, none⟩), .agg #[I (p 0), I (p 1), I (p 2), I (p 3), I (p 4), I (p 5)], I S] w fun e w' => e = .returned (I (forX x p S)) ∧ Below w.heap.size w w' := by
  have hn6 : x.sp.length ≤ 6 := hx.n6
  have HBD := Lib.hid (forTo_bd hx.n6 hp S)
  have HOL := Lib.hid (orTo_lt hx.n6 S)
  have HFL : Hid (∀ s, fromN x s < 64) := Lib.hid fun s => bits64 hx.n6 _
  have HCN : Hid (∀ i, i < x.sp.length → (orTo x S x.sp.length).testBit i = canB x.n (frX x) S i) := Lib.hid fun i hi => orTo_can x S hi
  have HEND : Hid (forTo x p S x.sp.length = forX x p S) := Lib.hid rfl
  have HFS : Hid (∀ k, forTo x p S (k + 1) = forTo x p S k + if canB x.n (frX x) S k then p k else 0) := Lib.hid fun k => rfl
  have HOS : Hid (∀ k, orTo x S (k + 1) = if S.testBit k then orTo x S k ||| fromN x k else orTo x S k) := Lib.hid fun k => rfl
  have HPP := Lib.hid hp
  have HW : Hid (Below w.heap.size w (w.alloc (.cells #[I (p 0), I (p 1), I (p 2), I (p 3), I (p 4), I (p 5)] 65))) := Lib.hid (below1 _ _)
  have HBX : Hid (∀ k, k < 6 → (w.alloc (.cells #[I (p 0), I (p 1), I (p 2), I (p 3), I (p 4), I (p 5)] 65)).cell? ⟨w.heap.size, k, none⟩ = some (I (p k))) := Lib.hid fun k hk => ((Box.new w (six p) 65).at_ k _ (six_at p hk)).1
  have HPA := Lib.hid (hP.call HW.out)
  have hPz := hP.lt
  clear hP hp hx
  go_enter Try.func48, Try.ntmps48
  have c0 := HPA.out.sp
  go_wp2_with (fail)
  generalize hwz0 : w.alloc (.cells #[I (p 0), I (p 1), I (p 2), I (p 3), I (p 4), I (p 5)] 65) = wa at *
  clear hwz0
  go_loop [7, 17] (fun s7 s17 => ∃ k : Nat, k ≤ x.sp.length ∧ s17 = I k ∧ s7 = I (orTo x S k)) (fun _ s => x.sp.length - (intOf s).toNat)
  case atStart => exact ⟨0, by omega, rfl, rfl⟩
  case round =>
    obtain ⟨k, hk, rfl, rfl⟩ := hrel
    by_cases hlt : k < x.sp.length
    · have p0 : (0 : Int) ≤ (k : Int) := by omega
      have p1 : (k : Int) < 6 := by omega
      have p2 : (k : Int) < (x.sp.length : Int) := by omega
      have p3 : (k : Int) ≤ 64 := by omega
      have cf := HPA.out.from_ k hlt
      have hor := or_two (HOL.out k) (HFL.out k)
      obtain ⟨hb1, hb2⟩ := bit_step (k := k) hS
      have HSK := Lib.hid (HOS.out k)
      generalize orTo x S k = o at *
      generalize fromN x k = f at *
      obtain ⟨b, hb⟩ : ∃ b, S.testBit k = b := ⟨_, rfl⟩
      rw [hb] at hb2 HSK
      generalize S / 2 ^ k = q at *
      clear hb
      cases b
      all_goals
        simp only [if_true, if_false, Bool.false_eq_true] at hb2
        go_wp2_with (fail)
        go_round
        case rel => exact ⟨k + 1, by omega, by go_num, by rw [HSK.out]; rfl⟩
        case measure => simp [intOf]; omega
    · obtain rfl : x.sp.length = k := by omega
      have hol := HOL.out x.sp.length
      obtain ⟨o, ho⟩ : ∃ o, orTo x S x.sp.length = o := ⟨_, rfl⟩
      rw [ho] at hol HCN ⊢
      clear ho
      go_wp2_with (fail)
      go_loop [8, 40] (fun s8 s40 => ∃ j : Nat, j ≤ x.sp.length ∧ s40 = I j ∧ s8 = I (forTo x p S j)) (fun _ s => x.sp.length - (intOf s).toNat)
      case atStart => exact ⟨0, by omega, rfl, rfl⟩
      case round =>
        obtain ⟨j, hj, rfl, rfl⟩ := hrel
        have hsb := HBD.out j hj
        by_cases hlj : j < x.sp.length
        · have p0 : (0 : Int) ≤ (j : Int) := by omega
          have p1 : (j : Int) < 6 := by omega
          have p2 : (j : Int) < (x.sp.length : Int) := by omega
          have p3 : (j : Int) ≤ 64 := by omega
          have cp := HBX.out j (by omega)
          have hpj := HPP.out j hlj
          obtain ⟨hb1, hb2⟩ := bit_step (k := j) hol
          have HSJ := Lib.hid (HFS.out j)
          rw [← HCN.out j hlj] at HSJ
          generalize forTo x p S j = s at *
          generalize p j = u at *
          obtain ⟨b, hb⟩ : ∃ b, o.testBit j = b := ⟨_, rfl⟩
          rw [hb] at hb2 HSJ
          generalize o / 2 ^ j = q at *
          clear hb
          cases b
          all_goals
            simp only [if_true, if_false, Bool.false_eq_true] at hb2
            go_wp2_with (fail)
            go_round
            case rel => exact ⟨j + 1, by omega, by go_num, by rw [HSJ.out]; first | rfl | simp⟩
            case measure => simp [intOf]; omega
        · obtain rfl : j = x.sp.length := by omega
          go_wp2_with (fail)
          go_ret
          exact ⟨ret_int HEND.out, HW.out⟩
end Go.Proofs.Ytfebhofihioaoaa
