/- Knots and stands as keys of maps; the nodes of the network as knots. -/
import Derived.Test.YtomfnldlnoiloaaDoorMp
import Derived.Test.YtomfnldlnoiloaaDoorN9
import Derived.DeepKeys4
import Derived.Test.YtomfnldlnoiloaaDoorProg
namespace Go.Proofs.YtomfnldlnoiloaaDoor
set_option linter.unusedVariables false
set_option linter.unusedSimpArgs false
open Go Go.RowKit

theorem seat_laid : laidOutB Tryd.prog = true := by kernel_rfl
theorem seat_own : ownKnob Tryd.prog.godebug = none := by kernel_rfl
def In64 (z : Int) : Prop := -9223372036854775808 ≤ z ∧ z ≤ 9223372036854775807
theorem wf_of64 {z : Int} (h : In64 z) : (Lit.int .i64 z).wf = true := by
  unfold In64 at h
  simpa [Lit.wf, IntKind.min, IntKind.max, IntKind.signed, IntKind.bits] using h
theorem wide89 : (match Tryd.prog.underlying 89 with | some (.array _ _) | some (.struct _) => true | _ => false) = true := by rw [Tryd.underlying89]
theorem wide46 : (match Tryd.prog.underlying 46 with | some (.array _ _) | some (.struct _) => true | _ => false) = true := by rw [Tryd.underlying46]
set_option maxRecDepth 100000 in
theorem lawK : Maps.Keyed Tryd.prog 89 := Maps.Keyed.of_law (deep_law_laid seat_laid (m := 3) (by omega) (of_decide_eq_true (by kernel_rfl)) (by kernel_rfl) wide89)
set_option maxRecDepth 100000 in
theorem lawS : Maps.Keyed Tryd.prog 46 := Maps.Keyed.of_law (deep_law_laid seat_laid (m := 2) (by omega) (of_decide_eq_true (by kernel_rfl)) (by kernel_rfl) wide46)
theorem lawI : Maps.Keyed Tryd.prog 3 := Maps.int_keyed Tryd.underlying3
/-- A knot, a stand. -/
abbrev kn (a b c : Int) : Value := .agg #[I a, I b, I c]
abbrev sd (a b : Int) : Value := .agg #[I a, I b]
theorem kl3 (n : Nat) (z : Int) (hz : In64 z) : Tryd.prog.keyLits (n + 1) 3 [I z] = some [.int .i64 z] := by simp [Program.keyLits, Tryd.underlying3, wf_of64 hz]
set_option maxRecDepth 100000 in
theorem kl46 (n : Nat) (a b : Int) (ha : In64 a) (hb : In64 b) : Tryd.prog.keyLits (n + 2) 46 [I a, I b] = some [.int .i64 a, .int .i64 b] := by
  have hc : Tryd.prog.cellsOf 46 = 2 := by kernel_rfl
  have hc3 : Tryd.prog.cellsOf 3 = 1 := by kernel_rfl
  unfold Program.keyLits
  simp only [Tryd.underlying46]
  simp [hc, hc3, kl3 n _ ha, kl3 n _ hb]
theorem types_two : ∃ n, Tryd.prog.types.size + 1 = n + 3 := ⟨Tryd.prog.types.size - 2, by have : 1 < Tryd.prog.types.size := of_decide_eq_true (by kernel_rfl); omega⟩
set_option maxRecDepth 100000 in
theorem isK46 {a b : Int} (ha : In64 a) (hb : In64 b) : IsK Tryd.prog 46 (sd a b) := by
  have kt : Tryd.prog.keyType 46 = true := by kernel_rfl
  have hc : Tryd.prog.cellsOf 46 = 2 := by kernel_rfl
  have hf : (sd a b).formed Tryd.prog 46 = true := by simp [Value.formed, Tryd.underlying46, hc]
  obtain ⟨n, hn⟩ := types_two
  refine ⟨.string (keyBytes [.int .i64 a, .int .i64 b]), ?_⟩
  unfold keyOf
  rw [Tryd.underlying46]
  simp only [kt, hf, Bool.and_self, if_true]
  have e1 : (sd a b).cells.toList = [I a, I b] := rfl
  rw [hn, e1, show n + 3 = (n + 1) + 2 by omega, kl46 (n + 1) a b ha hb]
  rfl
set_option maxRecDepth 100000 in
theorem isK89 {a b c : Int} (ha : In64 a) (hb : In64 b) (hc0 : In64 c) : IsK Tryd.prog 89 (kn a b c) := by
  have kt : Tryd.prog.keyType 89 = true := by kernel_rfl
  have hc : Tryd.prog.cellsOf 89 = 3 := by kernel_rfl
  have hc46 : Tryd.prog.cellsOf 46 = 2 := by kernel_rfl
  have hc3 : Tryd.prog.cellsOf 3 = 1 := by kernel_rfl
  have hf : (kn a b c).formed Tryd.prog 89 = true := by simp [Value.formed, Tryd.underlying89, hc]
  obtain ⟨n, hn⟩ := types_two
  refine ⟨.string (keyBytes [.int .i64 a, .int .i64 b, .int .i64 c]), ?_⟩
  unfold keyOf
  rw [Tryd.underlying89]
  simp only [kt, hf, Bool.and_self, if_true]
  have e1 : (kn a b c).cells.toList = [I a, I b, I c] := rfl
  have hk : Tryd.prog.keyLits (n + 3) 89 [I a, I b, I c] = some [.int .i64 a, .int .i64 b, .int .i64 c] := by
    unfold Program.keyLits
    simp only [Tryd.underlying89]
    simp [hc46, hc3, kl46 n a b ha hb, kl3 (n + 1) c hc0]
    exact hc.symm
  rw [hn, e1, hk]
  rfl
theorem isK3 {a : Int} (ha : In64 a) : IsK Tryd.prog 3 (I a) := ⟨.int .i64 a, Maps.keyOf_int_mk Tryd.underlying3 (wf_of64 ha)⟩
/-- A node as a knot: s nodes of stands, n a minute; then the source and the sink. -/
def kv (n s x : Nat) : Value := if x < s then kn (x % n : Nat) (x / n : Nat) 0 else if x = s then kn 0 0 1 else kn 0 0 2
theorem kv_src (n s : Nat) : kv n s s = kn 0 0 1 := by simp [kv]
theorem kv_snk (n s : Nat) : kv n s (s + 1) = kn 0 0 2 := by simp [kv]
theorem kv_nd {n p t m : Nat} (hp : p < n) (ht : t ≤ m) : kv n (nd n 0 (m + 1)) (nd n p t) = kn p t 0 := by
  unfold kv
  rw [if_pos (nd_lt hp ht)]
  unfold nd
  rw [Nat.add_comm, Nat.add_mul_mod_self_right, Nat.mod_eq_of_lt hp, Nat.add_mul_div_right _ _ (by omega), Nat.div_eq_of_lt hp, Nat.zero_add]
theorem kv_inj {n s x y : Nat} (hx : x ≤ s + 1) (hy : y ≤ s + 1) (h : kv n s x = kv n s y) : x = y := by
  unfold kv at h
  have hd : ∀ z : Nat, z = n * (z / n) + z % n := fun z => (Nat.div_add_mod z n).symm
  split at h
  · split at h
    · simp at h
      have h1 : x % n = y % n := by exact_mod_cast h.1
      have h2 : x / n = y / n := by exact_mod_cast h.2
      rw [hd x, hd y, h1, h2]
    · split at h <;> simp at h
  · split at h
    · split at h
      · simp at h
      · split at h
        · omega
        · simp at h
    · split at h
      · simp at h
      · split at h
        · simp at h
        · omega
theorem kv_in {n s x : Nat} (hs : s ≤ 1000000) : ∃ a b c : Int, kv n s x = kn a b c ∧ (0 ≤ a ∧ a ≤ 1000000) ∧ (0 ≤ b ∧ b ≤ 1000000) ∧ (0 ≤ c ∧ c ≤ 2) := by
  unfold kv
  split
  · rename_i h
    have h1 : x % n ≤ x := Nat.mod_le x n
    have h2 : x / n ≤ x := Nat.div_le_self x n
    generalize x % n = r at *
    generalize x / n = q at *
    exact ⟨_, _, _, rfl, by omega, by omega, by omega⟩
  · split
    · exact ⟨_, _, _, rfl, by omega, by omega, by omega⟩
    · exact ⟨_, _, _, rfl, by omega, by omega, by omega⟩
theorem in64 {z : Int} (h : 0 ≤ z ∧ z ≤ 1000000) : In64 z := ⟨by omega, by omega⟩
theorem kv_key {n s x : Nat} (hs : s ≤ 1000000) : IsK Tryd.prog 89 (kv n s x) := by
  obtain ⟨a, b, c, e, h1, h2, h3⟩ := kv_in (n := n) (x := x) hs
  rw [e]
  exact isK89 (in64 h1) (in64 h2) (in64 ⟨h3.1, by omega⟩)
end Go.Proofs.YtomfnldlnoiloaaDoor
