/- The program's watch is made. -/
import Derived.Test.YtijgfdncocjncaaS2
namespace Go.Proofs.Ytijgfdncocjncaa
set_option linter.unusedVariables false
set_option linter.unusedSimpArgs false
open Go Go.RowKit

/-- The program's watch, at block P. -/
structure Run (W : World) (P : Nat) (x : Wat) (A B : Option Addr) (c d : Nat) (D : Option Addr) (cs : Nat) : Prop where
  lt : P < W.heap.size
  hb0 : W.cell? ⟨P, 0, none⟩ = some (.slice A x.hb.length c)
  er0 : W.cell? ⟨P, 1, none⟩ = some (.slice B x.er.length d)
  en0 : W.cell? ⟨P, 2, none⟩ = some (I x.en)
  sp0 : W.cell? ⟨P, 3, none⟩ = some (.slice D x.hb.length cs)
  wat : WatAt W x A B
  spr : ∀ k, k < x.hb.length → ∃ S O oc, D = some ⟨S, 0, none⟩ ∧ S < W.heap.size ∧ W.cell? ⟨S, k * 5, none⟩ = some (I (x.ol k)) ∧ W.cell? ⟨S, k * 5 + 1, none⟩ = some (I (x.oh k)) ∧ W.cell? ⟨S, k * 5 + 2, none⟩ = some (I (x.dl k)) ∧ W.cell? ⟨S, k * 5 + 3, none⟩ = some (I (x.dh k)) ∧
    W.cell? ⟨S, k * 5 + 4, none⟩ = some (.slice O (own x k).length oc) ∧ Ints W W.heap.size O ((own x k).map fun i : Nat => (i : Int))
theorem Run.call {W W' : World} {P : Nat} {x : Wat} {A B : Option Addr} {c d : Nat} {D : Option Addr} {cs : Nat} (h : Run W P x A B c d D cs) (hB : Below W.heap.size W W') : Run W' P x A B c d D cs where
  lt := Nat.lt_of_lt_of_le h.lt hB.size
  hb0 := (hB.cell (p := ⟨P, 0, none⟩) h.lt).trans h.hb0
  er0 := (hB.cell (p := ⟨P, 1, none⟩) h.lt).trans h.er0
  en0 := (hB.cell (p := ⟨P, 2, none⟩) h.lt).trans h.en0
  sp0 := (hB.cell (p := ⟨P, 3, none⟩) h.lt).trans h.sp0
  wat := h.wat.below hB
  spr := fun k hk => by
    obtain ⟨S, O, oc, h1, h2, h3, h4, h5, h6, h7, h8⟩ := h.spr k hk
    exact ⟨S, O, oc, h1, Nat.lt_of_lt_of_le h2 hB.size, (hB.cell (p := ⟨S, _, none⟩) h2).trans h3, (hB.cell (p := ⟨S, _, none⟩) h2).trans h4, (hB.cell (p := ⟨S, _, none⟩) h2).trans h5, (hB.cell (p := ⟨S, _, none⟩) h2).trans h6, (hB.cell (p := ⟨S, _, none⟩) h2).trans h7, (h8.below hB).more hB.size⟩
theorem hb_get (x : Wat) {k : Nat} (h : k < x.hb.length) : x.hb[k] = (x.ol k, x.oh k, x.dl k, x.dh k) := by simp [Wat.ol, Wat.oh, Wat.dl, Wat.dh, List.getD, h]
theorem info90 : (Try.prog.info? 90).map (fun i => (i.zero, i.size, i.bytes)) = some (some (.agg #[I 0, I 0, I 0, I 0, .slice none 0 0]), 5, 56) := by kernel_rfl
theorem info3 : (Try.prog.info? 3).map (fun i => (i.zero, i.size, i.bytes)) = some (some (.int .i64 0), 1, 8) := by kernel_rfl
/-- The springs, without their eruptions. -/
def spr0 (x : Wat) (k : Nat) : List Value := (List.range k).flatMap fun i => [I (x.ol i), I (x.oh i), I (x.dl i), I (x.dh i), .slice none 0 0]
theorem spr0_succ (x : Wat) (k : Nat) : spr0 x (k + 1) = spr0 x k ++ [I (x.ol k), I (x.oh k), I (x.dl k), I (x.dh k), .slice none 0 0] := by
  unfold spr0
  rw [List.range_succ, List.flatMap_append]
  simp
theorem spr0_len (x : Wat) : ∀ k, (spr0 x k).length = k * 5
  | 0 => rfl
  | k + 1 => by rw [spr0_succ, List.length_append, spr0_len x k]; simp; omega
theorem spr0_get (x : Wat) : ∀ n k, k < n → (spr0 x n)[k * 5]? = some (I (x.ol k)) ∧ (spr0 x n)[k * 5 + 1]? = some (I (x.oh k)) ∧ (spr0 x n)[k * 5 + 2]? = some (I (x.dl k)) ∧ (spr0 x n)[k * 5 + 3]? = some (I (x.dh k)) ∧ (spr0 x n)[k * 5 + 4]? = some (.slice none 0 0)
  | 0, k, h => by omega
  | n + 1, k, h => by
    rw [spr0_succ]
    rcases Nat.lt_succ_iff_lt_or_eq.1 h with h1 | rfl
    · have hl := spr0_len x n
      obtain ⟨e0, e1, e2, e3, e4⟩ := spr0_get x n k h1
      rw [List.getElem?_append_left (by omega), List.getElem?_append_left (by omega), List.getElem?_append_left (by omega), List.getElem?_append_left (by omega), List.getElem?_append_left (by omega)]
      exact ⟨e0, e1, e2, e3, e4⟩
    · have hl := spr0_len x k
      rw [List.getElem?_append_right (by omega), List.getElem?_append_right (by omega), List.getElem?_append_right (by omega), List.getElem?_append_right (by omega), List.getElem?_append_right (by omega)]
      rw [hl]
      simp
/-- The springs, as their eruptions come. -/
structure Grow (W : World) (H2 S : Nat) (x : Wat) (i : Nat) (os : Nat → Value) : Prop where
  sz : S < H2 ∧ H2 ≤ W.heap.size
  fix : ∀ k, k < x.hb.length → W.cell? ⟨S, k * 5, none⟩ = some (I (x.ol k)) ∧ W.cell? ⟨S, k * 5 + 1, none⟩ = some (I (x.oh k)) ∧ W.cell? ⟨S, k * 5 + 2, none⟩ = some (I (x.dl k)) ∧ W.cell? ⟨S, k * 5 + 3, none⟩ = some (I (x.dh k))
  cell : ∀ k, k < x.hb.length → W.cell? ⟨S, k * 5 + 4, none⟩ = some (os k) ∧ W.frozen? ⟨S, k * 5 + 4, none⟩ = false
  own : ∀ k, k < x.hb.length → W.ownsRow H2 3 1 (os k) (ownTo x k i).length ((ownTo x k i).map fun j : Nat => I j)
  apart : ∀ k l, k < x.hb.length → l < x.hb.length → k ≠ l → ∀ g, (os k).ownBlock = some g → (os l).ownBlock ≠ some g
section
variable {W W' : World} {H2 S : Nat} {x : Wat} {i : Nat} {os : Nat → Value}
theorem Grow.below (h : Grow W H2 S x i os) (hB : Below W.heap.size W W') : Grow W' H2 S x i os where
  sz := ⟨h.sz.1, Nat.le_trans h.sz.2 hB.size⟩
  fix := fun k hk => by
    have hS : S < W.heap.size := Nat.lt_of_lt_of_le h.sz.1 h.sz.2
    obtain ⟨a, b, c, d⟩ := h.fix k hk
    exact ⟨(hB.cell (p := ⟨S, _, none⟩) hS).trans a, (hB.cell (p := ⟨S, _, none⟩) hS).trans b, (hB.cell (p := ⟨S, _, none⟩) hS).trans c, (hB.cell (p := ⟨S, _, none⟩) hS).trans d⟩
  cell := fun k hk => by
    have hS : S < W.heap.size := Nat.lt_of_lt_of_le h.sz.1 h.sz.2
    exact ⟨(hB.cell (p := ⟨S, _, none⟩) hS).trans (h.cell k hk).1, (hB.frozen (p := ⟨S, _, none⟩) hS).trans (h.cell k hk).2⟩
  own := fun k hk => grown_own (h.own k hk) hB
  apart := h.apart
theorem Grow.step {q : Nat} {v' : Value} {W1 W2 : World} (h : Grow W H2 S x i os) (hq : q < x.hb.length) (hs : x.sp i = (q : Int)) (hB1 : Below W.heap.size W W1) (hown : W2.ownsRow H2 3 1 v' ((ownTo x q i).length + 1) (((ownTo x q i).map fun j : Nat => I j) ++ [I i]))
    (hg : W1.grownBy W2 (os q).ownBlock) (hat : v'.ownBlock = (os q).ownBlock ∨ v'.ownBlock = some W1.heap.size) : Grow (W2.setCell ⟨S, q * 5 + 4, none⟩ v') H2 S x (i + 1) (fun k => if k = q then v' else os k) := by
  have h1 := h.below hB1
  have hSW : S < W1.heap.size := Nat.lt_of_lt_of_le h1.sz.1 h1.sz.2
  have hSo : ∀ k, k < x.hb.length → ∀ g, (os k).ownBlock = some g → H2 ≤ g ∧ g < W1.heap.size := fun k hk g e => (h1.own k hk).lt g e
  have hSn : (os q).ownBlock ≠ some S := fun e => by have := (hSo q hq S e).1; have := h.sz.1; omega
  have hblk : W2.heap[S]? = W1.heap[S]? := hg.block S hSW (fun e => hSn e.symm)
  have hc : ∀ o, W2.cell? ⟨S, o, none⟩ = W1.cell? ⟨S, o, none⟩ := fun o => World.cell?_of_block hblk
  have hf : ∀ o, W2.frozen? ⟨S, o, none⟩ = W1.frozen? ⟨S, o, none⟩ := fun o => World.frozen?_of_block hblk
  have hne : ∀ k j, k ≠ q → j < 5 → k * 5 + j ≠ q * 5 + 4 := fun k j hk hj => by omega
  have hot : ∀ o, o ≠ q * 5 + 4 → (W2.setCell ⟨S, q * 5 + 4, none⟩ v').cell? ⟨S, o, none⟩ = W1.cell? ⟨S, o, none⟩ := fun o ho => by
    rw [World.cell?_setCell_other _ _ _ _ (by simp; try omega)]
    exact hc o
  have hz : W1.heap.size ≤ (W2.setCell ⟨S, q * 5 + 4, none⟩ v').heap.size := by have := hg.size; simpa using this
  refine ⟨⟨h.sz.1, Nat.le_trans h1.sz.2 hz⟩, fun k hk => ?_, fun k hk => ?_, fun k hk => ?_, fun k l hk hl hkl g e => ?_⟩
  · obtain ⟨a, b, c, d⟩ := h1.fix k hk
    exact ⟨(hot _ (by omega)).trans a, (hot _ (by omega)).trans b, (hot _ (by omega)).trans c, (hot _ (by omega)).trans d⟩
  · by_cases e : k = q
    · subst e
      rw [if_pos rfl]
      refine ⟨?_, ?_⟩
      · have := (hc (k * 5 + 4)).trans (h1.cell k hk).1
        simp [go_sem, this]
      · have := (hf (k * 5 + 4)).trans (h1.cell k hk).2
        simpa [go_sem] using this
    · rw [if_neg e]
      refine ⟨(hot _ (by omega)).trans (h1.cell k hk).1, ?_⟩
      have := (hf (k * 5 + 4)).trans (h1.cell k hk).2
      simpa [go_sem] using this
  · by_cases e : k = q
    · subst e
      rw [if_pos rfl]
      have e1 : ownTo x k (i + 1) = ownTo x k i ++ [i] := by
        rw [ownTo_succ]
        simp [hs]
      rw [e1, List.length_append, List.map_append]
      refine own_at hown fun g' e' => Below.heap_setCell _ _ _ _ ?_
      have := (hown.lt g' e').1
      have := h.sz.1
      simp
      omega
    · rw [if_neg e]
      have e1 : ownTo x k (i + 1) = ownTo x k i := by
        rw [ownTo_succ]
        have : (x.sp i == (k : Int)) = false := by
          rw [hs]
          simp
          omega
        simp [this]
      rw [e1]
      refine own_at (h1.own k hk) fun g' e' => (Below.heap_setCell _ _ _ _ ?_).trans (hg.block g' (hSo k hk g' e').2 fun e2 => h1.apart k q hk hq e g' e' e2.symm)
      have := (hSo k hk g' e').1
      have := h.sz.1
      simp
      omega
  · have key : ∀ l, l < x.hb.length → l ≠ q → ∀ g, v'.ownBlock = some g → (os l).ownBlock ≠ some g := fun l hl hlq g e1 e2 => by
      rcases hat with e3 | e3
      · rw [e3] at e1
        exact h1.apart q l hq hl (Ne.symm hlq) g e1 e2
      · rw [e3] at e1
        cases e1
        have := (hSo l hl _ e2).2
        omega
    by_cases ek : k = q
    · subst ek
      rw [if_pos rfl] at e
      rw [if_neg (Ne.symm hkl)]
      exact key l hl (Ne.symm hkl) g e
    · rw [if_neg ek] at e
      by_cases el : l = q
      · subst el
        rw [if_pos rfl]
        exact fun e2 => key k hk ek g e2 e
      · rw [if_neg el]
        exact h1.apart k l hk hl hkl g e
end
set_option maxRecDepth 100000 in
set_option maxHeartbeats 4000000 in
theorem newWatch30 (x : Wat) (A B : Option Addr) (c d : Nat) (w : World) (hx : WatOk x) (hW : WatAt w x A B) :
    Calls Try.prog 30 #[x.val A c B d] w fun e w' => ∃ (D : Option Addr) (cs : Nat), e = .returned (.pointer (some ⟨w.heap.size + 1, 0, none⟩)) ∧ Run w' (w.heap.size + 1) x A B c d D cs ∧ Below w.heap.size w w' := by
  have HX := Lib.hid hx
  have hn6 : x.hb.length ≤ 6 := hx.n6
  have hm64 : x.er.length ≤ 64 := hx.m64
  have HFI : Hid (∀ W, Below w.heap.size w W → WatAt W x A B) := Lib.hid fun W hB => hW.below hB
  have HHB : Hid (∀ k (h : k < x.hb.length), x.hb[k].1 = x.ol k ∧ x.hb[k].2.1 = x.oh k ∧ x.hb[k].2.2.1 = x.dl k ∧ x.hb[k].2.2.2 = x.dh k) := Lib.hid fun k h => by rw [hb_get x h]; exact ⟨rfl, rfl, rfl, rfl⟩
  have HER : Hid (∀ k (h : k < x.er.length), x.er[k].1 = x.sp k ∧ x.er[k].2 = x.tm k) := Lib.hid fun k h => by rw [er_get x h]; exact ⟨rfl, rfl⟩
  have HSP : Hid (∀ k, k < x.er.length → ∃ q : Nat, x.sp k = (q : Int) ∧ q < x.hb.length) := Lib.hid fun k hk => by
    have h1 := (hx.eru k hk).sp
    have h2 : (x.n : Int) = (x.hb.length : Int) := rfl
    exact ⟨(x.sp k).toNat, by omega, by omega⟩
  have HS0 := Lib.hid (spr0_succ x)
  have HOL := Lib.hid (own_len x)
  obtain ⟨i0, hi0, hi1, hi2, hi3⟩ := info_parts info3
  obtain ⟨j0, hj0, hj1, hj2, hj3⟩ := info_parts info90
  have hu : Try.prog.underlying 33 = some (.slice 3) := Try.underlying33
  have hu2 : Try.prog.underlying 67 = some (.slice 90) := Try.underlying67
  have HU := Lib.hid hu; have HI0 := Lib.hid hi0; have HI1 := Lib.hid hi1; have HI2 := Lib.hid hi2; have HI3 := Lib.hid hi3
  have HU2 := Lib.hid hu2; have HJ0 := Lib.hid hj0; have HJ1 := Lib.hid hj1; have HJ2 := Lib.hid hj2; have HJ3 := Lib.hid hj3
  clear hu hi0 hi1 hi2 hi3 hu2 hj0 hj1 hj2 hj3 hx hW
  simp only [Wat.val]
  obtain ⟨en, hen⟩ : ∃ en, x.en = en := ⟨_, rfl⟩
  rw [hen]
  have HEN := Lib.hid hen
  clear hen
  have HCP : Hid (∀ W, Below (w.heap.size + 1) (w.alloc (.cells #[.slice A x.hb.length c, .slice B x.er.length d, I en] 25)) W → W.cell? ⟨w.heap.size, 0, none⟩ = some (.slice A x.hb.length c) ∧ W.cell? ⟨w.heap.size, 1, none⟩ = some (.slice B x.er.length d) ∧ W.cell? ⟨w.heap.size, 2, none⟩ = some (I en) ∧ Below w.heap.size w W) := Lib.hid fun W hW =>
    ⟨(hW.cell (p := ⟨_, _, none⟩) (by simp)).trans (by simp [go_sem]), (hW.cell (p := ⟨_, _, none⟩) (by simp)).trans (by simp [go_sem]), (hW.cell (p := ⟨_, _, none⟩) (by simp)).trans (by simp [go_sem]), (below1 w _).trans (hW.mono (by omega))⟩
  have hsz : (w.alloc (.cells #[.slice A x.hb.length c, .slice B x.er.length d, I en] 25)).heap.size = w.heap.size + 1 := by simp
  have HP0 : Hid (Box ((w.alloc (.cells #[.slice A x.hb.length c, .slice B x.er.length d, I en] 25)).alloc (.cells #[.slice A x.hb.length c, .slice B x.er.length d, I en, .slice none 0 0] 69)) (w.heap.size + 1) [.slice A x.hb.length c, .slice B x.er.length d, I en, .slice none 0 0]) := Lib.hid (by
    have := Box.new (w.alloc (.cells #[.slice A x.hb.length c, .slice B x.er.length d, I en] 25)) [.slice A x.hb.length c, .slice B x.er.length d, I en, .slice none 0 0] 69
    simpa only [World.size_alloc] using this)
  have HBB : Hid (Below (w.heap.size + 1) (w.alloc (.cells #[.slice A x.hb.length c, .slice B x.er.length d, I en] 25)) ((w.alloc (.cells #[.slice A x.hb.length c, .slice B x.er.length d, I en] 25)).alloc (.cells #[.slice A x.hb.length c, .slice B x.er.length d, I en, .slice none 0 0] 69))) := Lib.hid ((Below.refl _ _).alloc (by simp) _)
  have hsz2 : ((w.alloc (.cells #[.slice A x.hb.length c, .slice B x.er.length d, I en] 25)).alloc (.cells #[.slice A x.hb.length c, .slice B x.er.length d, I en, .slice none 0 0] 69)).heap.size = w.heap.size + 2 := by simp
  obtain ⟨c0, _⟩ := HCP.out _ HBB.out
  go_enter Try.func30, Try.ntmps30
  go_wp2_with (fail)
  clear c0
  generalize ((w.alloc (.cells #[.slice A x.hb.length c, .slice B x.er.length d, I en] 25)).alloc (.cells #[.slice A x.hb.length c, .slice B x.er.length d, I en, .slice none 0 0] 69)) = w0 at *
  generalize hwz0 : w.alloc (.cells #[.slice A x.hb.length c, .slice B x.er.length d, I en] 25) = wa at *
  clear hwz0
  go_loopw [15] (fun s15 wr => ∃ (k : Nat) (v : Value), k ≤ x.hb.length ∧ s15 = I k ∧ Below (w.heap.size + 1) wa wr ∧ w.heap.size + 2 ≤ wr.heap.size ∧ Hid (Box wr (w.heap.size + 1) [.slice A x.hb.length c, .slice B x.er.length d, I en, v]) ∧ Hid (wr.ownsRow (w.heap.size + 2) 90 5 v k (spr0 x k))) (fun s _ => x.hb.length - (intOf s).toNat)
  case atStart => exact ⟨0, _, by omega, rfl, HBB.out, by omega, HP0, Lib.hid (World.ownsRow_nil w0 (w.heap.size + 2) 90 5)⟩
  case round =>
    clear HBB HP0 hsz2
    obtain ⟨k, v, hk, rfl, hB, hz, HP, HO⟩ := hrel
    obtain ⟨c0, c1, c2, hBw⟩ := HCP.out _ hB
    by_cases hlt : k < x.hb.length
    · obtain ⟨ab, ao, hAe, haz, hac⟩ := ((HFI.out _ hBw).hb) (by omega)
      subst hAe
      obtain ⟨a0, a1, a2, a3⟩ := hac k hlt
      obtain ⟨e0, e1, e2, e3⟩ := HHB.out k hlt
      rw [e0] at a0
      rw [e1] at a1
      rw [e2] at a2
      rw [e3] at a3
      have HSK := Lib.hid (HS0.out k)
      clear hac e0 e1 e2 e3
      generalize x.ol k = v0 at *
      generalize x.oh k = v1 at *
      generalize x.dl k = v2 at *
      generalize x.dh k = v3 at *
      have p0 : (0 : Int) ≤ (k : Int) := by omega
      have p1 : (k : Int) < (x.hb.length : Int) := by omega
      have HXa : Hid (Box (wr.alloc (.cells #[I v0, I v1, I v2, I v3] 54)) wr.heap.size [I v0, I v1, I v2, I v3]) := Lib.hid (Box.new wr [I v0, I v1, I v2, I v3] 54)
      have HBa : Hid (Below (w.heap.size + 1) wa (wr.alloc (.cells #[I v0, I v1, I v2, I v3] 54))) := Lib.hid (hB.alloc (by omega) _)
      have HPa := Lib.hid (HP.out.alloc (.cells #[I v0, I v1, I v2, I v3] 54))
      have HOa := Lib.hid (HO.out.alloc (.cells #[I v0, I v1, I v2, I v3] 54))
      have hza : (wr.alloc (.cells #[I v0, I v1, I v2, I v3] 54)).heap.size = wr.heap.size + 1 := by simp
      go_wp2_with (fail)
      clear a0 a1 a2 a3 c0 c1 c2 HP HO hB hBw
      obtain ⟨T5, hT5⟩ : ∃ T5, T5 = wr.heap.size := ⟨_, rfl⟩
      rw [← hT5] at HXa hza ⊢
      have hT5b : w.heap.size + 2 ≤ T5 := by omega
      have HZA := Lib.hid hza
      have hza2 : T5 + 1 ≤ (wr.alloc (.cells #[I v0, I v1, I v2, I v3] 54)).heap.size := by omega
      clear hT5 hz hza
      generalize wr.alloc (.cells #[I v0, I v1, I v2, I v3] 54) = wb at *
      obtain ⟨x3, y3⟩ := HPa.out.at_ 3 _ rfl
      obtain ⟨t0, _⟩ := HXa.out.at_ 0 _ rfl
      obtain ⟨t1, _⟩ := HXa.out.at_ 1 _ rfl
      obtain ⟨t2, _⟩ := HXa.out.at_ 2 _ rfl
      obtain ⟨t3, _⟩ := HXa.out.at_ 3 _ rfl
      refine wp_norm ?_
      refine (wpIn_wide (n := 9)).1 ?_
      refine wpIn_region_plan (Plan.ons [0, 1, 2, 3, 4, 5, 6, 7, 8, 9, 10, 11] .fin) [0, 1, 2, 3, 4] (fun W' => W'.cell? ⟨w.heap.size + 1, 3, none⟩ = some v) [11] rfl (by kernel_rfl) (by kernel_rfl) (fun _ _ _ _ _ h => by cases h.1) (by simpa using x3) ?_
      (refine ordQ_held (.pointer (some ⟨w.heap.size + 1, 0, none⟩)) rfl rfl rfl rfl (fun W' hC' => ?_) (fun K hK => ?_); (focus (obtain _ := x3; go_simp; try exact ⟨rfl, rfl⟩)); go_simp; refine hK _ ?_; clear hK K)
      (refine ordQ_held (.pointer (some ⟨w.heap.size + 1, 0, none⟩)) rfl rfl rfl rfl (fun W' hC' => ?_) (fun K hK => ?_); (focus (obtain _ := x3; go_simp; try exact ⟨rfl, rfl⟩)); go_simp; refine hK _ ?_; clear hK K)
      (refine ordQ_held (.pointer (some ⟨w.heap.size + 1, 0, none⟩)) rfl rfl rfl rfl (fun W' hC' => ?_) (fun K hK => ?_); (focus (obtain _ := x3; go_simp; try exact ⟨rfl, rfl⟩)); go_simp; refine hK _ ?_; clear hK K)
      (refine ordQ_held (.pointer (some ⟨w.heap.size + 1, 3, none⟩)) rfl rfl rfl rfl (fun W' hC' => ?_) (fun K hK => ?_); (focus (obtain _ := x3; go_simp; try exact ⟨rfl, rfl⟩)); go_simp; refine hK _ ?_; clear hK K)
      (refine ordQ_held (v) rfl rfl rfl rfl (fun W' hC' => ?_) (fun K hK => ?_); (focus (obtain e9 := hC'; go_simp; try exact ⟨rfl, rfl⟩)); go_simp; refine hK _ ?_; clear hK K)
      iterate 2 (refine ordQ_li rfl rfl rfl (fun K hK => ?_); go_simp; refine hK _ ?_; clear hK K)
      refine ordQ_hv rfl rfl rfl (fun K hK => ?_)
      gi_wp2
      refine hK _ _ (fun _ => (((HPa.out.drew.alloc _).at_ 3 _ rfl).1)) ?_
      clear hK K
      refine ordQ_hv rfl rfl rfl (fun K hK => ?_)
      refine opIn_append_own rfl _ _ _ 67 rfl (w.heap.size + 2) 90 j0 (.agg #[I 0, I 0, I 0, I 0, .slice none 0 0]) 5 56 HU2.out HJ0.out HJ1.out HJ2.out HJ3.out rfl (by decide) v k _ rfl (HOa.out.drew.alloc (.cells #[I v0, I v1, I v2, I v3, .slice none 0 0] 90)) ⟨wb.heap.size, 0, none⟩ 1 1 [I v0, I v1, I v2, I v3, .slice none 0 0] rfl rfl (cells5 wb.drew _ _ _ _ _ 90) (by simp [Value.oneCell']) (by unfold maxLen; omega) (by omega) (by simp; omega) ?_
      intro v' w6 hown' hgrow _
      have HO6 : Hid (w6.ownsRow (w.heap.size + 2) 90 5 v' (k + 1) (spr0 x (k + 1))) := Lib.hid (by rw [HSK.out]; exact hown')
      have HP6 : Hid (Box w6 (w.heap.size + 1) [.slice (some ⟨ab, ao, none⟩) x.hb.length c, .slice B x.er.length d, I en, v]) := Lib.hid ((HPa.out.drew.alloc _).grown hgrow (fun e => by have := (HOa.out.lt _ e).1; omega))
      have hB7 : Below (w.heap.size + 1) wa w6 := (HBa.out.drew.alloc (show w.heap.size + 1 ≤ wb.heap.size by omega) (.cells #[I v0, I v1, I v2, I v3, .slice none 0 0] 90)).grown hgrow (by simp; omega) (fun g e => by have := (HOa.out.lt g e).1; omega)
      have hz6 : w.heap.size + 2 ≤ w6.heap.size := by have := hgrow.size; simp at this; omega
      obtain ⟨x6, y6⟩ := HP6.out.at_ 3 _ rfl
      obtain ⟨g, cap, hv'⟩ : ∃ g cap, v' = .slice (some ⟨g, 0, none⟩) (k + 1) cap := by
        rcases own_formS HO6.out with ⟨_, h⟩ | ⟨g, cap, h, _⟩
        · exact absurd h (by omega)
        · exact ⟨g, cap, h⟩
      subst hv'
      refine hK _ _ (fun _ => x6) ?_
      clear hK K hown' hgrow
      iterate 2 (refine ordQ_li rfl rfl rfl (fun K hK => ?_); go_simp; refine hK _ ?_; clear hK K)
      refine ordQ_hv rfl rfl rfl (fun K hK => ?_)
      gi_wp2
      refine hK _ _ (fun h => by cases h) ?_
      clear hK K
      refine ordQ_fin ?_
      refine ⟨rfl, ?_⟩
      have HP7 : Hid (Box (w6.setCell ⟨w.heap.size + 1, 3, none⟩ (.slice (some ⟨g, 0, none⟩) (k + 1) cap)) (w.heap.size + 1) [.slice (some ⟨ab, ao, none⟩) x.hb.length c, .slice B x.er.length d, I en, .slice (some ⟨g, 0, none⟩) (k + 1) cap]) := Lib.hid (HP6.out.set 3 _)
      have HO7 : Hid ((w6.setCell ⟨w.heap.size + 1, 3, none⟩ (.slice (some ⟨g, 0, none⟩) (k + 1) cap)).ownsRow (w.heap.size + 2) 90 5 (.slice (some ⟨g, 0, none⟩) (k + 1) cap) (k + 1) (spr0 x (k + 1))) := Lib.hid (own_at HO6.out fun g' e => Below.heap_setCell _ _ _ _ (by have := (HO6.out.lt g' e).1; simp; omega))
      have hB8 : Below (w.heap.size + 1) wa (w6.setCell ⟨w.heap.size + 1, 3, none⟩ (.slice (some ⟨g, 0, none⟩) (k + 1) cap)) := hB7.setCell (p := ⟨w.heap.size + 1, 3, none⟩) (Nat.le_refl _) _
      go_wp2_with (fail)
      go_roundw
      case rel => first | exact ⟨k + 1, _, by omega, by go_num, hB8, by simp; omega, HP7, HO7⟩ | ((repeat apply Exists.intro); refine ⟨?_, rfl⟩; exact ⟨k + 1, _, by omega, by go_num, hB8, by simp; omega, HP7, HO7⟩)
      case measure => first | (simp [intOf]; done) | (simp [intOf]; omega)
    · obtain rfl : k = x.hb.length := by omega
      rcases Nat.eq_zero_or_pos x.er.length with hm0 | hm0
      · have hm1 : ¬ (0 < x.er.length) := by omega
        have HM0 := Lib.hid hm0
        clear hm0
        obtain ⟨D, cs, hv⟩ : ∃ D cs, v = .slice D x.hb.length cs := by
          rcases own_formS HO.out with ⟨h1, h2⟩ | ⟨g, cap, h, _⟩
          · exact ⟨none, 0, by rw [h1, h2]⟩
          · exact ⟨_, _, h⟩
        subst hv
        have HZ : Hid (Run wr (w.heap.size + 1) x A B c d D cs) := Lib.hid (by
          refine ⟨HP.out.1, (HP.out.at_ 0 _ rfl).1, (HP.out.at_ 1 _ rfl).1, by rw [HEN.out]; exact (HP.out.at_ 2 _ rfl).1, (HP.out.at_ 3 _ rfl).1, HFI.out _ hBw, fun k hk => ?_⟩
          rcases own_formS HO.out with ⟨_, h2⟩ | ⟨g, cap, h, _, hg⟩
          · omega
          · injection h with h _ h3
            subst h h3
            obtain ⟨s0, s1, s2, s3, s4⟩ := spr0_get x x.hb.length k hk
            have ho0 : own x k = [] := List.eq_nil_of_length_eq_zero (by have h1 := own_len x k x.er.length; have h2 := HM0.out; unfold own Wat.m; omega)
            rw [ho0]
            refine ⟨g, none, 0, rfl, hg, ?_, ?_, ?_, ?_, ?_, fun h => absurd h (by simp)⟩
            all_goals (rw [HO.out.cellAt _ (by omega)]; assumption))
        go_wp2_with (fail)
        go_loopw [34] (fun s34 wr2 => s34 = I 0 ∧ wr2 = wr) (fun _ _ => 0)
        case atStart => exact ⟨rfl, rfl⟩
        case round =>
          obtain ⟨rfl, rfl⟩ := hrel
          go_wp2_with (fail)
          refine bodyPost_ret (v := .pointer (some ⟨w.heap.size + 1, 0, none⟩)) (by simp [results, Try.results30, go_sem]) rfl ⟨D, cs, rfl, HZ.out, hBw⟩
      · obtain ⟨q0, _, hq0⟩ := HSP.out 0 hm0
        obtain ⟨S, cs, hv, hS1, hS2⟩ : ∃ S cs, v = .slice (some ⟨S, 0, none⟩) x.hb.length cs ∧ w.heap.size + 2 ≤ S ∧ S < wr.heap.size := by
          rcases own_formS HO.out with ⟨_, h2⟩ | ⟨g, cap, h, h3, h4⟩
          · omega
          · exact ⟨g, cap, h, h3, h4⟩
        subst hv
        have HG : Hid (Grow wr wr.heap.size S x 0 (fun _ => .slice none 0 0)) := Lib.hid (by
          refine ⟨⟨hS2, Nat.le_refl _⟩, fun k hk => ?_, fun k hk => ?_, fun k hk => ?_, fun k l _ _ _ g e => by cases e⟩
          · obtain ⟨s0, s1, s2, s3, s4⟩ := spr0_get x x.hb.length k hk
            refine ⟨?_, ?_, ?_, ?_⟩
            all_goals (rw [HO.out.cellAt _ (by omega)]; assumption)
          · obtain ⟨s0, s1, s2, s3, s4⟩ := spr0_get x x.hb.length k hk
            exact ⟨by rw [HO.out.cellAt _ (by omega)]; exact s4, HO.out.frozenAt _⟩
          · exact World.ownsRow_nil wr wr.heap.size 3 1)
        go_wp2_with (fail)
        obtain ⟨H2, hH2⟩ : ∃ H2, H2 = wr.heap.size := ⟨_, rfl⟩
        rw [← hH2] at HG hS2
        clear hH2 HO c0 c1 c2 hBw
        go_loopw [34] (fun s34 wr2 => ∃ (i : Nat) (os : Nat → Value), i ≤ x.er.length ∧ s34 = I i ∧ Below (w.heap.size + 1) wa wr2 ∧ Hid (Box wr2 (w.heap.size + 1) [.slice A x.hb.length c, .slice B x.er.length d, I en, .slice (some ⟨S, 0, none⟩) x.hb.length cs]) ∧ Hid (Grow wr2 H2 S x i os)) (fun s _ => x.er.length - (intOf s).toNat)
        case atStart => exact ⟨0, _, by omega, rfl, hB, HP, HG⟩
        case round =>
          clear HP HG hB hz
          obtain ⟨i, os, hi, rfl, hB, HP, HG⟩ := hrel
          obtain ⟨c0, c1, c2, hBw⟩ := HCP.out _ hB
          have hHz := HG.out.sz
          by_cases hli : i < x.er.length
          · obtain ⟨eb, eo, hBe, hez, hec⟩ := ((HFI.out _ hBw).er) (by omega)
            subst hBe
            obtain ⟨r0, r1⟩ := hec i hli
            obtain ⟨q1, q2⟩ := HER.out i hli
            rw [q1] at r0
            rw [q2] at r1
            obtain ⟨q, hq, hqn⟩ := HSP.out i hli
            rw [hq] at r0
            have HQ := Lib.hid hq
            clear hec q1 q2 hq
            generalize x.tm i = tm at *
            have p0 : (0 : Int) ≤ (i : Int) := by omega
            have p1 : (i : Int) < (x.er.length : Int) := by omega
            have p2 : (0 : Int) ≤ (q : Int) := by omega
            have p3 : (q : Int) < (x.hb.length : Int) := by omega
            have HXa : Hid (Box (wr.alloc (.cells #[I q, I tm] 50)) wr.heap.size [I q, I tm]) := Lib.hid (Box.new wr [I q, I tm] 50)
            have HBe : Hid (Below wr.heap.size wr (wr.alloc (.cells #[I q, I tm] 50))) := Lib.hid ((Below.refl _ _).alloc (Nat.le_refl _) _)
            have hza : (wr.alloc (.cells #[I q, I tm] 50)).heap.size = wr.heap.size + 1 := by simp
            go_wp2_with (fail)
            clear r0 r1 c0 c1 c2
            obtain ⟨T7, hT7⟩ : ∃ T7, T7 = wr.heap.size := ⟨_, rfl⟩
            have HTB := Lib.hid HBe.out
            rw [← hT7] at HXa ⊢
            have hT7b : H2 ≤ T7 := by omega
            have HG2 := Lib.hid (HG.out.below HBe.out)
            have HP2 := Lib.hid (HP.out.call HBe.out)
            have hB2 := hB.trans (HBe.out.mono (by have := hHz.2; omega))
            have HBE2 := Lib.hid HBe.out
            clear HBe HTB hT7 HG HP hB
            generalize wr.alloc (.cells #[I q, I tm] 50) = wb at *
            have HCW : Hid (∀ W, Below wb.heap.size wb W → W.cell? ⟨w.heap.size + 1, 3, none⟩ = some (.slice (some ⟨S, 0, none⟩) x.hb.length cs) ∧ W.cell? ⟨T7, 0, none⟩ = some (I q)) := Lib.hid fun W hW => ⟨((HP2.out.call hW).at_ 3 _ rfl).1, ((HXa.out.call hW).at_ 0 _ rfl).1⟩
            refine (wpIn_wide (n := 9)).1 ?_
            refine wpIn_region_valsB [some 39, some 40, some 41, some 42, some 43, some 44, some 45, some 8]
              (nthV [.pointer (some ⟨w.heap.size + 1, 0, none⟩), .pointer (some ⟨w.heap.size + 1, 0, none⟩), .pointer (some ⟨w.heap.size + 1, 3, none⟩), .slice (some ⟨S, 0, none⟩) x.hb.length cs, .pointer (some ⟨T7, 0, none⟩), I q, .pointer (some ⟨S, q * 5, none⟩), .pointer (some ⟨S, q * 5, none⟩)])
              [(3, .pointer (some ⟨w.heap.size + 1, 0, none⟩)), (7, .pointer (some ⟨T7, 0, none⟩))]
              (fun W => Below wb.heap.size wb W) rfl (by kernel_rfl) (fun _ => trivial) (by kernel_rfl) (by kernel_rfl) (by kernel_rfl) ⟨rfl, rfl, trivial⟩ (fun _ d _ _ _ h => by cases d <;> exact h) (by first | exact (Below.refl _ _).drew | exact (below_drewN (Below.refl _ _) _).drew) ?_ ?_
            · refine ⟨?_, ?_, ?_, ?_, ?_, ?_, ?_, ?_, trivial⟩
              all_goals (intro x0 W hC; obtain ⟨n0, n1⟩ := HCW.out _ hC)
              all_goals first
                | (refine e_no rfl ?_; rfl)
                | (refine e_yes rfl ?_; intro b e hb K hK)
              all_goals first
                | (refine opE_li rfl hb ?_; simp only [execOp, resolve, Oper.about, envB, lookB, lookV, nthV, List.map_toArray, List.map_cons, List.map_nil, Nat.reduceEqDiff, reduceIte, Nat.succ_ne_zero, Nat.zero_ne_one, Nat.one_ne_zero, Nat.reduceAdd, Nat.zero_add]; go_simp; exact hK _ hC)
            · (intro W hC; have HC := Lib.hid hC; clear hC; simp only [putD, nthV, Act.put, List.setIfInBounds_toArray, List.set_cons_succ, List.set_cons_zero, Nat.zero_add, Nat.reduceAdd])
              have hCo := HC.out
              clear HC HCW
              have HG3 := Lib.hid (HG2.out.below hCo)
              have HP3 := Lib.hid (HP2.out.call hCo)
              have hB3 := hB2.trans (hCo.mono (by have := hHz.2; omega))
              clear HG2 HP2
              obtain ⟨s0, s1⟩ := HG3.out.cell q hqn
              have HO3 := Lib.hid (HG3.out.own q hqn)
              have HLQ := HOL.out q i
              have hzW := HG3.out.sz
              have HOa := Lib.hid (HO3.out.alloc (.cells #[I i] 3))
              have HC1 := Lib.hid (cell_one3 W (I i) 3)
              have HSB : Hid (∀ g, (os q).ownBlock = some g → H2 ≤ g) := Lib.hid fun g e => (HO3.out.lt g e).1
              obtain ⟨ov, hov⟩ : ∃ ov, os q = ov := ⟨_, rfl⟩
              have HOV := Lib.hid hov
              rw [hov] at s0 HOa HSB
              clear hov HO3
              obtain ⟨f0, f1, f2⟩ : W.cell? ⟨S, q * 5 + 4, none⟩ = some ov ∧ W.frozen? ⟨S, q * 5 + 4, none⟩ = false ∧ (W.alloc (.cells #[I i] 3)).cell? ⟨S, q * 5 + 4, none⟩ = some ov := ⟨s0, s1, (((below1 W _).cell (p := ⟨S, q * 5 + 4, none⟩) (show S < _ by omega)).trans s0)⟩
              go_wp2_with (first
                | (at_builtin; refine wpList_append_own_at _ rfl _ _ 33 rfl H2 3 i0 (.int .i64 0) 1 8 HU.out HI0.out HI1.out HI2.out HI3.out rfl (by decide) _ _ _ rfl HOa.out ⟨W.heap.size, 0, none⟩ 1 1 [I i] rfl rfl HC1.out (by simp [Value.oneCell']) (by unfold maxLen; omega) (by omega) (by simp; omega) ?_; intro v' w6 hown6 hg6 _ hat6; have hg6S := hg6.block S (by simp; omega) (fun e => by have := HSB.out S e.symm; omega); have u0 : w6.cell? ⟨S, q * 5 + 4, none⟩ = some ov := ((World.cell?_of_block hg6S).trans f2); have u1 : w6.frozen? ⟨S, q * 5 + 4, none⟩ = false := ((World.frozen?_of_block hg6S).trans (((below1 W _).frozen (p := ⟨S, q * 5 + 4, none⟩) (show S < _ by omega)).trans f1)); (obtain ⟨g6, cap6, hv6⟩ : ∃ g6 cap6, v' = .slice (some ⟨g6, 0, none⟩) ((ownTo x q i).length + 1) cap6 := (by rcases own_formS hown6 with ⟨_, h⟩ | ⟨g, cap, h, _⟩; exact absurd h (by omega); exact ⟨g, cap, h⟩)); subst hv6; have HG6 := Lib.hid hg6; have HW6 := Lib.hid hown6; have HA6 := Lib.hid hat6; clear hg6 hown6 hat6 hg6S)
                | fail)
              have HGN := Lib.hid (HG3.out.step hqn HQ.out (below1 W (.cells #[I i] 3)) HW6.out (by rw [HOV.out]; exact HG6.out) (by rw [HOV.out]; exact HA6.out))
              have hz6 := HG6.out.size
              have HPN : Hid (Box (w6.setCell ⟨S, q * 5 + 4, none⟩ (.slice (some ⟨g6, 0, none⟩) ((ownTo x q i).length + 1) cap6)) (w.heap.size + 1) [.slice A x.hb.length c, .slice (some ⟨eb, eo, none⟩) x.er.length d, I en, .slice (some ⟨S, 0, none⟩) x.hb.length cs]) := Lib.hid (((HP3.out.alloc _).grown HG6.out (fun e => by have := HSB.out _ e; omega)).far (p := ⟨S, q * 5 + 4, none⟩) (show S ≠ _ by omega) _)
              have HBN : Hid (Below (w.heap.size + 1) wa (w6.setCell ⟨S, q * 5 + 4, none⟩ (.slice (some ⟨g6, 0, none⟩) ((ownTo x q i).length + 1) cap6))) := Lib.hid (((hB3.alloc (by omega) _).grown HG6.out (by simp; omega) (fun g e => by have := HSB.out g e; omega)).setCell (p := ⟨S, q * 5 + 4, none⟩) (show w.heap.size + 1 ≤ S by omega) _)
              go_roundw
              case rel => first | exact ⟨i + 1, _, by omega, by go_num, HBN.out, HPN, HGN⟩ | ((repeat apply Exists.intro); refine ⟨?_, rfl⟩; exact ⟨i + 1, _, by omega, by go_num, HBN.out, HPN, HGN⟩)
              case measure => first | (simp [intOf]; done) | (simp [intOf]; omega)
          · obtain rfl : i = x.er.length := by omega
            have HZ : Hid (Run wr (w.heap.size + 1) x A B c d (some ⟨S, 0, none⟩) cs) := Lib.hid (by
              refine ⟨HP.out.1, (HP.out.at_ 0 _ rfl).1, (HP.out.at_ 1 _ rfl).1, by rw [HEN.out]; exact (HP.out.at_ 2 _ rfl).1, (HP.out.at_ 3 _ rfl).1, HFI.out _ hBw, fun k hk => ?_⟩
              obtain ⟨a0, a1, a2, a3⟩ := HG.out.fix k hk
              have ho : wr.ownsRow H2 3 1 (os k) (own x k).length (((own x k).map fun i : Nat => (i : Int)).map I) := by
                have h1 := HG.out.own k hk
                rw [List.map_map]
                exact h1
              obtain ⟨O, oc, hO, hI⟩ := ints_ownN ho (by simp)
              rw [List.length_map] at hO
              refine ⟨S, O, oc, rfl, by omega, a0, a1, a2, a3, ?_, hI⟩
              rw [← hO]
              exact (HG.out.cell k hk).1)
            go_wp2_with (fail)
            refine bodyPost_ret (v := .pointer (some ⟨w.heap.size + 1, 0, none⟩)) (by simp [results, Try.results30, go_sem]) rfl ⟨_, cs, rfl, HZ.out, hBw⟩
end Go.Proofs.Ytijgfdncocjncaa
