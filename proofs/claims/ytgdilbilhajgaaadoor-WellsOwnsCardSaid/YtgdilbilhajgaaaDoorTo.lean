/- WellsOwns: the walk. -/
import Derived.Test.YtgdilbilhajgaaaDoorD1
namespace Go.Proofs.YtgdilbilhajgaaaDoor
set_option linter.unusedVariables false
set_option linter.unusedSimpArgs false
open Go Go.RowKit

theorem flat2_at {W : World} {B : Nat} {A : Option Addr} {xs : List (Int × Int)} (h : Pairs W B A xs) : 0 < xs.length → ∃ ad, A = some ad ∧ ∀ j u, (flat2 xs)[j]? = some u → W.cell? (ad.add j) = some u := fun h0 => by
  obtain ⟨b, off, rfl, _, hc⟩ := h h0
  refine ⟨_, rfl, fun j u hj => ?_⟩
  have hj' : j < xs.length * 2 := by
    have := (List.getElem?_eq_some_iff.1 hj).1
    rwa [flat2_len] at this
  have hk : j / 2 < xs.length := by omega
  obtain ⟨c0, c1⟩ := hc (j / 2) hk
  obtain ⟨d0, d1⟩ := flat2_get xs (j / 2) hk
  rw [Addr.add_lit]
  rcases (by omega : j = j / 2 * 2 ∨ j = j / 2 * 2 + 1) with e | e
  · rw [e] at hj ⊢; rw [d0] at hj; cases hj; exact c0
  · rw [e] at hj ⊢; rw [d1] at hj; cases hj; rw [← Nat.add_assoc]; exact c1
section
variable {P : Program}
theorem wpList_append_lit (w : World) {ops : Array Oper} {rest : List Oper} {o : Oper} {a : Act} {Q : Exit → Act → World → Prop} (hgd : o.guard = none) (s x : Operand) (t : TypeId)
    (ho : o.op = .call { callee := .builtin .append, args := #[s, x], argTypes := #[t, t] })
    (e : TypeId) (i : TypeInfo) (z : Value) (size bytes : Nat) (ht : P.underlying t = some (.slice e)) (hi : P.info? e = some i) (hz : i.zero = some z)
    (hsize : i.size = size) (hby : i.bytes = bytes) (hzs : z.cells.size = size) (hsz : 0 < size)
    (b : Addr) (hs : a.eval s = .slice (some b) 0 0) (A : Option Addr) (m c : Nat) (news : List Value) (hx : a.eval x = .slice A m c) (hl : news.length = m * size) (hnews : 0 < m → ∃ ad, A = some ad ∧ ∀ j u, news[j]? = some u → w.cell? (ad.add j) = some u)
    (h63 : m ≤ maxLen) (hbytes : m * bytes ≤ 140737488355328)
    (h : ∀ v' w', (w'.ownsRow w.heap.size e size v' m news ∨ m = 0 ∧ v' = .slice (some b) 0 0) → w.grownBy w' none → wpList P ops Q rest (a.put o.dst v') w') : wpList P ops Q (o :: rest) a w :=
  wpList_plain hgd fun _ hK => by
    obtain ⟨v', w', hr, h2, h3⟩ := run_append_lit (P := P) w t o.type e i z size bytes ht hi hz hsize hby hzs hsz b A m c news hl hnews h63 hbytes
    unfold Oper.wp execOp
    simp only [ho, resolve, invoke, builtin, Sem.run_bind, Sem.run_pure, Result.andThen_ok, List.map_toArray, List.map_cons, List.map_nil, hs, hx, hr]
    exact hK _ _ (h v' w' h2 h3)
end
section
variable {W w : World} {base n : Nat} {e : TypeId} {v : Value} {b : Addr}
theorem pairs_lit {xs : List (Int × Int)} (h : W.ownsRow base e 2 v xs.length (flat2 xs) ∨ xs.length = 0 ∧ v = .slice (some b) 0 0) : ∃ A c, v = .slice A xs.length c ∧ Pairs W W.heap.size A xs := by
  rcases h with h | ⟨h, rfl⟩
  · obtain ⟨A, c, rfl, hp⟩ := pairs_ownN h rfl
    exact ⟨A, c, rfl, hp⟩
  · exact ⟨some b, 0, by rw [h], fun h0 => by omega⟩
theorem threes_lit {xs : List (Int × Int × Int)} (h : W.ownsRow base e 3 v xs.length (flat3 xs) ∨ xs.length = 0 ∧ v = .slice (some b) 0 0) : ∃ A c, v = .slice A xs.length c ∧ Threes W W.heap.size A xs := by
  rcases h with h | ⟨h, rfl⟩
  · obtain ⟨A, c, rfl, hp⟩ := threes_own rfl h
    exact ⟨A, c, rfl, hp⟩
  · exact ⟨some b, 0, by rw [h], fun h0 => by omega⟩
theorem own_box {size : Nat} {xs : List Value} (h : W.ownsRow base e size v n xs) {g : Nat} (hg : v.ownBlock = some g) : Box W g xs ∧ xs.length = n * size ∧ base ≤ g ∧ g < W.heap.size := by
  have hl := h.lt g hg
  refine ⟨⟨hl.2, fun k hk => ?_⟩, h.1, hl⟩
  have hc := h.cells hg k xs[k] (List.getElem?_eq_getElem hk)
  rw [Addr.add_lit, Nat.zero_add] at hc
  refine ⟨hc, ?_⟩
  obtain ⟨_, h2⟩ := h
  rcases h2 with ⟨rfl, _⟩ | ⟨g', cap, cur, rfl, _, h4, _⟩
  · cases hg
  · cases hg
    simp [World.frozen?, h4]
end
theorem own_len {W : World} {base n size k c : Nat} {e : TypeId} {v : Value} {xs : List Value} {A : Option Addr} (h : W.ownsRow base e size v n xs) (hv : v = .slice A k c) : k = n := by
  rcases h.2 with ⟨h1, h2⟩ | ⟨g, cap, cur, h1, _⟩
  · rw [hv] at h1; injection h1 with _ h3 _; omega
  · rw [hv] at h1; injection h1
theorem own_at_cells {W : World} {base n c size : Nat} {e : TypeId} {xs : List Value} {A : Option Addr} (h : W.ownsRow base e size (.slice A n c) n xs) (h0 : 0 < n) : ∃ ad, A = some ad ∧ ad.block < W.heap.size ∧ ∀ j u, xs[j]? = some u → W.cell? (ad.add j) = some u := by
  rcases h.2 with ⟨h1, h2⟩ | ⟨g, cap, cur, h1, _⟩
  · omega
  · injection h1 with h3 _ _
    subst h3
    exact ⟨_, rfl, (h.lt g rfl).2, h.cells (g := g) rfl⟩
theorem own_zero {W : World} {base n c size : Nat} {e : TypeId} {xs : List Value} {A : Option Addr} {ad : Addr} (h : W.ownsRow base e size (.slice A n c) n xs) (h0 : 0 < n) (hA : A = some ad) : ∃ g, ad = ⟨g, 0, none⟩ := by
  rcases h.2 with ⟨h1, h2⟩ | ⟨g, cap, cur, h1, _⟩
  · omega
  · injection h1 with h3 _ _
    rw [hA] at h3
    cases h3
    exact ⟨g, rfl⟩
theorem sorted_le : ∀ (p : List Nat) (lo N : Nat), p.Pairwise (· < ·) → (∀ k ∈ p, lo ≤ k ∧ k < N) → p.length + lo ≤ N ∨ p = []
  | [], _, _, _, _ => .inr rfl
  | x :: r, lo, N, h, hk => by
    obtain ⟨h1, h2⟩ := List.pairwise_cons.1 h
    have hx := hk x (by simp)
    have := sorted_le r (x + 1) N h2 (fun k hk' => ⟨h1 k hk', (hk k (by simp [hk'])).2⟩)
    rcases this with h3 | rfl
    · exact .inl (by simp only [List.length_cons]; omega)
    · exact .inl (by simp; omega)
theorem info55 : (Tryd.prog.info? 55).map (fun i => (i.zero, i.size, i.bytes)) = some (some (.agg #[I 0, I 0]), 2, 16) := by kernel_rfl
theorem copied_keep {w3 w4 W : World} {b0 b1 n n' size size' : Nat} {e e' : TypeId} {va v4 : Value} {xs ys : List Value} {bb : Addr} (hC : w4.ownsRow b0 e size v4 n xs ∨ n = 0 ∧ v4 = .slice (some bb) 0 0) (hO : w3.ownsRow b1 e' size' va n' ys) (hb : w3.heap.size ≤ b0)
    (hF : Frm w4.heap.size (fun b => va.ownBlock = some b) w4 W) : W.ownsRow b0 e size v4 n xs ∨ n = 0 ∧ v4 = .slice (some bb) 0 0 :=
  hC.imp (fun h => own_at h fun g hg => by
    have h1 := h.lt g hg
    exact hF.block g h1.2 (fun e => by have := (hO.lt g e).2; omega)) id
/-- What is answered, in a row of one's own. -/
def FlOwn (x : List (Int × Int)) (r : Int) (w : World) (e : Ending) (w' : World) : Prop := ∃ v, e = .returned (.tuple #[v, I r]) ∧ w'.ownsRow w.heap.size 39 2 v x.length (flat2 x) ∧ x.length ≤ 100 ∧ Below w.heap.size w w'
def PrOwn (w : World) (e : Ending) (w' : World) : Prop := ∃ v n xs r, e = .returned (.tuple #[v, I r]) ∧ w'.ownsRow w.heap.size 3 1 v n xs ∧ n ≤ 100 ∧ Below w.heap.size w w'
def OvOwn (w : World) (e : Ending) (w' : World) : Prop := ∃ v n xs v2 r, e = .returned (.tuple #[v, v2, I r]) ∧ w'.ownsRow w.heap.size 3 1 v n xs ∧ n ≤ 100 ∧ Below w.heap.size w w'
def ExOut (w : World) (e : Ending) (w' : World) : Prop := ∃ a b, e = .returned (.tuple #[I a, I b]) ∧ Below w.heap.size w w'
section
variable {m : List (Int × Int)} {l : List (Int × Int × Int)} {w w' : World} {e : Ending}
theorem FlowsPost.own (h : FlowsPost m l w e w') : FlOwn (flR m l).1 (flR m l).2 w e w' := by
  obtain ⟨hB, ⟨h, rfl⟩ | ⟨h, h2, rfl⟩ | ⟨h, v, sl, rfl, ho, hsl, hsp⟩⟩ := h
  · rw [flR_bad h]; exact ⟨_, rfl, World.ownsRow_nil _ _ _ _, by simp, hB⟩
  · rw [flR_wrong h h2]; exact ⟨_, rfl, World.ownsRow_nil _ _ _ _, by simp, hB⟩
  · rw [flR_ok h hsl hsp]
    exact ⟨v, rfl, by rw [hsl]; exact ho, by have := h.1.le; simp only; omega, hB⟩
theorem OverPost.own (h : OverPost m l w e w') : OvOwn w e w' := by
  obtain ⟨hB, ⟨h, rfl⟩ | ⟨h, h2, rfl⟩ | ⟨h, v1, v2, d, rfl, o1, o2, _, hsp⟩⟩ := h
  · exact ⟨_, _, _, _, _, rfl, World.ownsRow_nil _ _ _ _, by simp, hB⟩
  · exact ⟨_, _, _, _, _, rfl, World.ownsRow_nil _ _ _ _, by simp, hB⟩
  · have h3 := surelyL_le m d
    have := h.1.le
    exact ⟨v1, _, _, v2, _, rfl, o1, by omega, hB⟩
theorem ProofPost.own {main : Int} (h : ProofPost m l main w e w') : PrOwn w e w' := by
  obtain ⟨hB, ⟨h, rfl⟩ | ⟨_, _, rfl⟩ | ⟨_, _, _, rfl⟩ | ⟨_, _, _, _, rfl⟩ | ⟨h, _, _, v, p, rfl, ho, hp⟩⟩ := h
  · exact ⟨_, _, _, _, rfl, World.ownsRow_nil _ _ _ _, by simp, hB⟩
  · exact ⟨_, _, _, _, rfl, World.ownsRow_nil _ _ _ _, by simp, hB⟩
  · exact ⟨_, _, _, _, rfl, World.ownsRow_nil _ _ _ _, by simp, hB⟩
  · exact ⟨_, _, _, _, rfl, World.ownsRow_nil _ _ _ _, by simp, hB⟩
  · refine ⟨v, _, _, _, rfl, ho, ?_, hB⟩
    have h1 := h.2.1
    have h3 := sorted_le p 0 l.length hp.sorted (fun k hk => ⟨Nat.zero_le _, hp.lt k hk⟩)
    rcases h3 with h3 | rfl
    · omega
    · simp
theorem ExcPost.own (h : ExcPost m l w e w') : ExOut w e w' := by
  obtain ⟨hB, ⟨_, rfl⟩ | ⟨_, _, rfl⟩ | ⟨_, v, _, rfl⟩⟩ := h <;> exact ⟨_, _, rfl, hB⟩
end

/-- A row of one's own that is written over: the block, and how long it is. -/
def OvW (v : Value) (n : Nat) (w0 W : World) : Prop := Frm w0.heap.size (fun b => v.ownBlock = some b) w0 W ∧ ∀ g, v.ownBlock = some g → ∃ vs : List Value, vs.length = n ∧ Box W g vs
theorem OvW.start {W : World} {base n size : Nat} {e : TypeId} {v : Value} {xs : List Value} (h : W.ownsRow base e size v n xs) : OvW v (n * size) W W := ⟨Frm.refl _ _ _, fun g hg => ⟨xs, h.1, (own_box h hg).1⟩⟩
theorem OvW.below {w0 W : World} {v : Value} {n B : Nat} (h : OvW v n w0 W) (hB : B ≤ w0.heap.size) (hv : ∀ g, v.ownBlock = some g → B ≤ g) : Below B w0 W := h.1.below hB fun k hk e => by have := hv k e; omega
theorem OvW.set1 {w0 W : World} {g n c N k : Nat} (h : OvW (.slice (some ⟨g, 0, none⟩) n c) N w0 W) (u : Value) : OvW (.slice (some ⟨g, 0, none⟩) n c) N w0 (W.setCell ⟨g, k, none⟩ u) := by
  refine ⟨h.1.setCell (p := ⟨g, k, none⟩) (.inr rfl) u, fun g' hg => ?_⟩
  cases hg
  obtain ⟨vs, h1, h2⟩ := h.2 g rfl
  exact ⟨_, by simpa using h1, h2.set k u⟩
theorem OvW.alloc {w0 W : World} {v : Value} {N : Nat} (h : OvW v N w0 W) (o : Obj) : OvW v N w0 (W.alloc o) :=
  ⟨h.1.alloc h.1.size o, fun g hg => by obtain ⟨vs, h1, h2⟩ := h.2 g hg; exact ⟨vs, h1, h2.alloc o⟩⟩

set_option maxRecDepth 100000 in
set_option maxHeartbeats 16000000 in
theorem owns_any (A : Option Addr) (c : Nat) (m : List (Int × Int)) (B : Option Addr) (d : Nat) (l : List (Int × Int × Int)) (main : Int) (w : World) (hT : TabOk w) (hm : Pairs w w.heap.size A m) (hml : m.length ≤ 9223372036854775807) (hl : Threes w w.heap.size B l) (hll : l.length ≤ 9223372036854775807)
    (hn0 : -9223372036854775808 ≤ main) (hn1 : main ≤ 9223372036854775807) :
    Calls Tryd.prog 10 #[.slice A m.length c, .slice B l.length d, I main] w fun e w' => e = .returned (.bool true) ∧ Below w.heap.size w w' := by
  have HA : Hid (∀ W, Below w.heap.size w W → Calls Tryd.prog 12 #[] W fun e w' => e = .returned (.bool true) ∧ Below W.heap.size W w') := Lib.hid fun W h => alive12 W (hT.below h)
  have HG : Hid (∀ W, Calls Tryd.prog 11 #[.slice A m.length c, .slice B l.length d, I 10] W fun e w' => e = .returned (.bool (greatB m.length l.length 10)) ∧ W = w') := Lib.hid fun W => great11 A B m.length c l.length d 10 W
  have HF : Hid (∀ W, Below w.heap.size w W → Calls Tryd.prog 18 #[.slice A m.length c, .slice B l.length d] W (FlOwn (flR m l).1 (flR m l).2 W)) := Lib.hid fun W h => (flows18 A B c d m l W ((hm.below h).more h.size) hml ((hl.below h).more h.size) hll).mono fun e w' h => h.own
  have HO : Hid (∀ W, Below w.heap.size w W → Calls Tryd.prog 23 #[.slice A m.length c, .slice B l.length d] W (OvOwn W)) := Lib.hid fun W h => (over23 A B c d m l W ((hm.below h).more h.size) hml ((hl.below h).more h.size) hll).mono fun e w' h => h.own
  have HP : Hid (∀ W, Below w.heap.size w W → Calls Tryd.prog 13 #[.slice A m.length c, .slice B l.length d, I main] W (PrOwn W)) := Lib.hid fun W h => (proof13 A B c d main m l W ((hm.below h).more h.size) hml ((hl.below h).more h.size) hll (hT.below h)).mono fun e w' h => h.own
  have HX : Hid (∀ W, Below w.heap.size w W → Calls Tryd.prog 15 #[.slice A m.length c, .slice B l.length d] W (ExOut W)) := Lib.hid fun W h => (excess15 A B c d m l W ((hm.below h).more h.size) hml ((hl.below h).more h.size) hll).mono fun e w' h => h.own
  have HIN := Lib.hid (And.intro hm hl)
  have HIN := Lib.hid (And.intro hm hl)
  have HM := Lib.hid hm
  have HL := Lib.hid hl
  generalize (flR m l).1 = fx at *
  generalize (flR m l).2 = fe at *
  clear hT hm hl
  cases hg : greatB m.length l.length 10
  · have hmz : m.length ≤ 24 ∧ l.length ≤ 20 := by unfold greatB at hg; simp at hg; omega
    obtain ⟨hm24, hl20⟩ := hmz
    rw [hg] at HG
    obtain ⟨i0, hi0, hi1, hi2, hi3⟩ := info_parts info55
    obtain ⟨j0, hj0, hj1, hj2, hj3⟩ := info_parts info42
    obtain ⟨k0, hk0, hk1, hk2, hk3⟩ := info_parts info39
    have hu22 : Tryd.prog.underlying 22 = some (.slice 55) := Tryd.underlying22
    have hu23 : Tryd.prog.underlying 23 = some (.slice 42) := Tryd.underlying23
    have hu34 : Tryd.prog.underlying 34 = some (.slice 39) := Tryd.underlying34
    have HU := Lib.hid hu22; have HI0 := Lib.hid hi0; have HI1 := Lib.hid hi1; have HI2 := Lib.hid hi2; have HI3 := Lib.hid hi3
    have HU2 := Lib.hid hu23; have HJ0 := Lib.hid hj0; have HJ1 := Lib.hid hj1; have HJ2 := Lib.hid hj2; have HJ3 := Lib.hid hj3
    have HU3 := Lib.hid hu34; have HK0 := Lib.hid hk0; have HK1 := Lib.hid hk1; have HK2 := Lib.hid hk2; have HK3 := Lib.hid hk3
    clear hu22 hi0 hi1 hi2 hi3 hu23 hj0 hj1 hj2 hj3 hu34 hk0 hk1 hk2 hk3
    have tok1 : True := trivial
    have tok2 : True := trivial
    go_enter Tryd.func10, Tryd.ntmps10
    go_wp2_with (first
      | (go_at_call 11; refine (HG.out _).mono ?_; rintro e w0 ⟨rfl, rfl⟩)
      | (at_builtin; have _t := tok1; have hBa : Below w.heap.size w (w.alloc (.cells #[] 55)) := (Below.refl _ _).alloc (Nat.le_refl _) _; have HAT := Lib.hid (flat2_at (HM.out.below hBa)); refine wpList_append_lit _ rfl _ _ 22 rfl 55 i0 (.agg #[I 0, I 0]) 2 16 HU.out HI0.out HI1.out HI2.out HI3.out rfl (by decide) _ rfl A m.length c (flat2 m) rfl (flat2_len m) HAT.out (by unfold maxLen; omega) (by omega) ?_; intro v1 w1 hown hgrow; clear tok1; have hB1 : Below w.heap.size w w1 := hBa.grown hgrow hBa.size (fun g e => by cases e); obtain ⟨A1, c1, rfl, hp1⟩ := pairs_lit hown; have HP1 := Lib.hid hp1; clear hp1 hown hgrow HAT hBa)
      | (at_builtin; have _t := tok2; have hBb : Below w1.heap.size w1 (w1.alloc (.cells #[] 42)) := (Below.refl _ _).alloc (Nat.le_refl _) _; have hBb2 := hB1.trans (hBb.mono hB1.size); have HAT := Lib.hid (flat3_at (HL.out.below hBb2)); refine wpList_append_lit _ rfl _ _ 23 rfl 42 j0 (.agg #[I 0, I 0, I 0]) 3 24 HU2.out HJ0.out HJ1.out HJ2.out HJ3.out rfl (by decide) _ rfl B l.length d (flat3 l) rfl (flat3_len l) HAT.out (by unfold maxLen; omega) (by omega) ?_; intro v2 w2 hown hgrow; clear tok2; have hB2a : Below w1.heap.size w1 w2 := hBb.grown hgrow hBb.size (fun g e => by cases e); have hB2 := hB1.trans (hB2a.mono hB1.size); obtain ⟨A2, c2, rfl, hp2⟩ := threes_lit hown; have HT2 := Lib.hid hp2; have HP2 := Lib.hid ((HP1.out.below hB2a).more hB2a.size); clear hp2 hown hgrow HAT hBb hBb2 HP1)
      | (go_at_call 18; refine (HF.out _ hB2).mono ?_; rintro e w3 ⟨va, rfl, hoa, hfx, hB3⟩; have HOA := Lib.hid hoa; clear hoa; obtain ⟨Aa, ka, ca, hva⟩ := own_slice HOA.out; have hka : ka = fx.length := own_len HOA.out hva; subst hka; subst hva)
      | (at_builtin; have hBc : Below w3.heap.size w3 (w3.alloc (.cells #[] 39)) := (Below.refl _ _).alloc (Nat.le_refl _) _; have HAT := Lib.hid (fun h0 => let ⟨ad, e1, e2⟩ := own_at_cells HOA.out h0; (⟨ad, e1, fun j u h => (hBc.cell (p := ad.add j) (by rw [block_of_add]; exact e2.1)).trans (e2.2 j u h)⟩ : ∃ ad, Aa = some ad ∧ ∀ j u, (flat2 fx)[j]? = some u → (w3.alloc (.cells #[] 39)).cell? (ad.add j) = some u)); refine wpList_append_lit _ rfl _ _ 34 rfl 39 k0 (.agg #[I 0, I 0]) 2 16 HU3.out HK0.out HK1.out HK2.out HK3.out rfl (by decide) _ rfl Aa fx.length ca (flat2 fx) rfl (flat2_len fx) HAT.out (by unfold maxLen; omega) (by omega) ?_; intro v4 w4 hown hgrow; obtain ⟨A4, c4, hv4, _⟩ := pairs_lit hown; subst hv4; have HC4 := Lib.hid hown; have hB4 : Below w3.heap.size w3 w4 := hBc.grown hgrow hBc.size (fun g e => by cases e); have HOA4 := Lib.hid (grown_own HOA.out hB4); clear hown hgrow HAT)
      | fail)
    -- the first loop
    clear HU HI0 HI1 HI2 HI3 HU2 HJ0 HJ1 HJ2 HJ3 HU3 HK0 HK1 HK2 HK3 HM HL
    have HV0 : Hid (OvW (.slice Aa fx.length ca) (fx.length * 2) w4 w4) := Lib.hid (OvW.start HOA4.out)
    go_loopw [45] (fun s wr => ∃ k : Nat, k ≤ fx.length ∧ s = I k ∧ Hid (OvW (.slice Aa fx.length ca) (fx.length * 2) w4 wr)) (fun s _ => fx.length - (intOf s).toNat)
    case atStart => exact ⟨0, Nat.zero_le _, rfl, HV0⟩
    case round =>
      clear HV0
      obtain ⟨k, hk, rfl, HV⟩ := hrel
      by_cases hlt : k < fx.length
      · obtain ⟨ad, hAd, hadz, _⟩ := own_at_cells HOA4.out (by omega)
        obtain ⟨g, hAg⟩ : ∃ g, ad = ⟨g, 0, none⟩ := own_zero HOA4.out (by omega) hAd
        subst hAd hAg
        obtain ⟨vs, hvl, hbx⟩ := HV.out.2 g rfl
        have hgz := hbx.1
        obtain ⟨x0, y0⟩ := hbx.2 (k * 2) (by omega)
        obtain ⟨x1, y1⟩ := hbx.2 (k * 2 + 1) (by omega)
        generalize vs[k * 2] = u0 at x0
        generalize vs[k * 2 + 1] = u1 at x1
        have p0 : (0 : Int) ≤ (k : Int) := by omega
        have p1 : (k : Int) < (fx.length : Int) := by omega
        clear hbx hvl hadz
        go_wp2_with (first
          | (go_at_call 21; refine (span21 _ _ _).mono ?_; rintro e w9 ⟨rfl, rfl⟩)
          | fail)
        go_roundw
        case rel => exact ⟨k + 1, by omega, by go_num, Lib.hid (((HV.out.set1 _).set1 _).alloc _)⟩
        case measure => first | (simp [intOf]; done) | (simp [intOf]; omega)
      · obtain rfl : fx.length = k := by omega
        have HWB : Hid (Below w2.heap.size w2 wr) := Lib.hid ((hB3.trans (hB4.mono hB3.size)).trans (HV.out.below (by have := hB3.size; have := hB4.size; omega) (fun g hg => (HOA4.out.lt g hg).1)))
        have HCW := Lib.hid (copied_keep HC4.out HOA.out (by simp) HV.out.1)
        have hBr : Below w.heap.size w wr := hB2.trans (HWB.out.mono hB2.size)
        have HP3 := Lib.hid ((HP2.out.below HWB.out).more HWB.out.size)
        have HT3 := Lib.hid ((HT2.out.below HWB.out).more HWB.out.size)
        obtain ⟨A4', c4', hv4', hp4⟩ := pairs_lit HCW.out
        obtain ⟨rfl, rfl⟩ : A4 = A4' ∧ c4 = c4' := by injection hv4' with a1 a2 a3; exact ⟨a1, a3⟩
        have HC3 := Lib.hid hp4
        clear hp4 hv4' HCW HV HWB HC4 HP2 HT2 HOA HOA4
        generalize wr = W3 at *
        go_wp2_with (first
          | (go_at_call 13; refine (HP.out _ hBr).mono ?_; rintro e w5 ⟨vp, np, xp, rp, rfl, hop, hnp, hB5⟩; have HOP := Lib.hid hop; clear hop; obtain ⟨Ap, kp, cp, hvp⟩ := own_slice HOP.out; have hkp : kp = np := own_len HOP.out hvp; subst hkp; subst hvp)
          | fail)
        have HV0 : Hid (OvW (.slice Ap kp cp) (kp * 1) w5 w5) := Lib.hid (OvW.start HOP.out)
        go_loopw [62] (fun s wr => ∃ k : Nat, k ≤ kp ∧ s = I k ∧ Hid (OvW (.slice Ap kp cp) (kp * 1) w5 wr)) (fun s _ => kp - (intOf s).toNat)
        case atStart => exact ⟨0, Nat.zero_le _, rfl, HV0⟩
        case round =>
          clear HV0
          obtain ⟨k, hk, rfl, HV⟩ := hrel
          by_cases hlt : k < kp
          · obtain ⟨ad, hAd, hadz, _⟩ := own_at_cells HOP.out (by omega)
            obtain ⟨g, hAg⟩ : ∃ g, ad = ⟨g, 0, none⟩ := own_zero HOP.out (by omega) hAd
            subst hAd hAg
            obtain ⟨vs, hvl, hbx⟩ := HV.out.2 g rfl
            have hgz := hbx.1
            obtain ⟨x0, y0⟩ := hbx.2 k (by omega)
            generalize vs[k] = u0 at x0
            have p0 : (0 : Int) ≤ (k : Int) := by omega
            have p1 : (k : Int) < (kp : Int) := by omega
            clear hbx hvl hadz
            go_wp2_with (fail)
            go_roundw
            case rel => exact ⟨k + 1, by omega, by go_num, Lib.hid (HV.out.set1 _)⟩
            case measure => first | (simp [intOf]; done) | (simp [intOf]; omega)
          · obtain rfl : kp = k := by omega
            have hBl : Below W3.heap.size W3 wr := hB5.trans (HV.out.below hB5.size (fun g hg => (HOP.out.lt g hg).1))
            have hBr5 : Below w.heap.size w wr := hBr.trans (hBl.mono hBr.size)
            have HP4 := Lib.hid ((HP3.out.below hBl).more hBl.size)
            have HT4 := Lib.hid ((HT3.out.below hBl).more hBl.size)
            have HC4 := Lib.hid ((HC3.out.below hBl).more hBl.size)
            clear HV HOP hB5 hBl HP3 HT3 HC3 hBr
            have HP3 := HP4
            have HT3 := HT4
            have HC3 := HC4
            have hBr := hBr5
            clear HP4 HT4 HC4 hBr5
            generalize wr = W4 at *
            go_wp2_with (first
              | (go_at_call 23; refine (HO.out _ hBr).mono ?_; rintro e w6 ⟨vo, no, xo, vo2, ro, rfl, hoo, hno, hB6⟩; have HOO := Lib.hid hoo; clear hoo; obtain ⟨Ao, ko, co, hvo⟩ := own_slice HOO.out; have hko : ko = no := own_len HOO.out hvo; subst hko; subst hvo)
              | fail)
            have HV0 : Hid (OvW (.slice Ao ko co) (ko * 1) w6 w6) := Lib.hid (OvW.start HOO.out)
            go_loopw [78] (fun s wr => ∃ k : Nat, k ≤ ko ∧ s = I k ∧ Hid (OvW (.slice Ao ko co) (ko * 1) w6 wr)) (fun s _ => ko - (intOf s).toNat)
            case atStart => exact ⟨0, Nat.zero_le _, rfl, HV0⟩
            case round =>
              clear HV0
              obtain ⟨k, hk, rfl, HV⟩ := hrel
              by_cases hlt : k < ko
              · obtain ⟨ad, hAd, hadz, _⟩ := own_at_cells HOO.out (by omega)
                obtain ⟨g, hAg⟩ : ∃ g, ad = ⟨g, 0, none⟩ := own_zero HOO.out (by omega) hAd
                subst hAd hAg
                obtain ⟨vs, hvl, hbx⟩ := HV.out.2 g rfl
                have hgz := hbx.1
                obtain ⟨x0, y0⟩ := hbx.2 k (by omega)
                generalize vs[k] = u0 at x0
                have p0 : (0 : Int) ≤ (k : Int) := by omega
                have p1 : (k : Int) < (ko : Int) := by omega
                clear hbx hvl hadz
                go_wp2_with (fail)
                go_roundw
                case rel => exact ⟨k + 1, by omega, by go_num, Lib.hid (HV.out.set1 _)⟩
                case measure => first | (simp [intOf]; done) | (simp [intOf]; omega)
              · obtain rfl : ko = k := by omega
                have hBl : Below W4.heap.size W4 wr := hB6.trans (HV.out.below hB6.size (fun g hg => (HOO.out.lt g hg).1))
                have hBr6 : Below w.heap.size w wr := hBr.trans (hBl.mono hBr.size)
                have HP4 := Lib.hid ((HP3.out.below hBl).more hBl.size)
                have HT4 := Lib.hid ((HT3.out.below hBl).more hBl.size)
                have HC4 := Lib.hid ((HC3.out.below hBl).more hBl.size)
                clear HV HOO hB6 hBl HP3 HT3 HC3 hBr
                have HP3 := HP4
                have HT3 := HT4
                have HC3 := HC4
                have hBr := hBr6
                clear HP4 HT4 HC4 hBr6
                generalize wr = W5 at *
                go_wp2_with (first
                  | (go_at_call 15; refine (HX.out _ hBr).mono ?_; rintro e w7 ⟨ea, eb, rfl, hB7⟩; have hBw7 := hBr.trans (hB7.mono hBr.size))
                  | (go_at_call 18; refine (HF.out _ hBw7).mono ?_; rintro e w8 ⟨vb, rfl, hob, _, hB8⟩; have hB58 := hB7.trans (hB8.mono hB7.size); have hBw8 := hBw7.trans (hB8.mono hBw7.size); obtain ⟨Ab, cb, hvb, hpb⟩ := pairs_ownN hob rfl; subst hvb; have HB := Lib.hid hpb; have HP4 := Lib.hid ((HP3.out.below hB58).more hB58.size); have HT4 := Lib.hid ((HT3.out.below hB58).more hB58.size); have HC4 := Lib.hid ((HC3.out.below hB58).more hB58.size); clear hpb hob HP3 HT3 HC3)
                  | fail)
                have HMI := Lib.hid ((HIN.out.1.below hBw8).more hBw8.size)
                have HLI := Lib.hid ((HIN.out.2.below hBw8).more hBw8.size)
                go_loopw [96] (fun s wr => ∃ k : Nat, k ≤ m.length ∧ s = I k ∧ Below w8.heap.size w8 wr) (fun s _ => m.length - (intOf s).toNat)
                case atStart => exact ⟨0, Nat.zero_le _, rfl, Below.refl _ _⟩
                case round =>
                  obtain ⟨k, hk, rfl, hBr9⟩ := hrel
                  by_cases hlt : k < m.length
                  · obtain ⟨b1, o1, hA1, hb1z, hc1⟩ := (HP4.out.below hBr9) (by omega)
                    obtain ⟨b2, o2, hA2, hb2z, hc2⟩ := (HMI.out.below hBr9) (by omega)
                    subst hA1 hA2
                    obtain ⟨x0, x1⟩ := hc1 k hlt
                    obtain ⟨y0, y1⟩ := hc2 k hlt
                    generalize m[k] = x at *
                    obtain ⟨xa, xb⟩ := x
                    simp only at x0 x1 y0 y1
                    have p0 : (0 : Int) ≤ (k : Int) := by omega
                    have p1 : (k : Int) < (m.length : Int) := by omega
                    clear hc1 hc2
                    go_wp2_with (fail)
                    go_quiet (fail)
                    go_wp2
                    go_roundw
                    case rel => exact ⟨k + 1, by omega, by go_num, below_drewN hBr9 _⟩
                    case measure => first | (simp [intOf]; done) | (simp [intOf]; omega)
                  · obtain rfl : m.length = k := by omega
                    have HP5 := Lib.hid HP4.out
                    go_wp2_with (fail)
                    have HT5 := Lib.hid ((HT4.out.below hBr9).more hBr9.size)
                    have HLI5 := Lib.hid ((HLI.out.below hBr9).more hBr9.size)
                    have HC5 := Lib.hid ((HC4.out.below hBr9).more hBr9.size)
                    have HB5 := Lib.hid ((HB.out.below hBr9).more hBr9.size)
                    have hBw9 := hBw8.trans (hBr9.mono hBw8.size)
                    clear HT4 HLI HC4 HB hBr9 HP4 HP5 HMI
                    generalize wr = w9 at *
                    go_loopw [111] (fun s wr => ∃ k : Nat, k ≤ l.length ∧ s = I k ∧ Below w9.heap.size w9 wr) (fun s _ => l.length - (intOf s).toNat)
                    case atStart => exact ⟨0, Nat.zero_le _, rfl, Below.refl _ _⟩
                    case round =>
                      obtain ⟨k, hk, rfl, hBr9⟩ := hrel
                      by_cases hlt : k < l.length
                      · obtain ⟨b1, o1, hA1, hb1z, hc1⟩ := (HT5.out.below hBr9) (by omega)
                        obtain ⟨b2, o2, hA2, hb2z, hc2⟩ := (HLI5.out.below hBr9) (by omega)
                        subst hA1 hA2
                        obtain ⟨x0, x1, x2⟩ := hc1 k hlt
                        obtain ⟨y0, y1, y2⟩ := hc2 k hlt
                        generalize l[k] = x at *
                        obtain ⟨xa, xb, xc⟩ := x
                        simp only at x0 x1 x2 y0 y1 y2
                        have p0 : (0 : Int) ≤ (k : Int) := by omega
                        have p1 : (k : Int) < (l.length : Int) := by omega
                        clear hc1 hc2
                        go_wp2_with (fail)
                        go_quiet (fail)
                        go_wp2
                        go_roundw
                        case rel => exact ⟨k + 1, by omega, by go_num, below_drewN hBr9 _⟩
                        case measure => first | (simp [intOf]; done) | (simp [intOf]; omega)
                      · obtain rfl : l.length = k := by omega
                        have HS25 := Lib.hid ((spans25 Ab A4 cb c4 fx fx wr ((HB5.out.below hBr9).more hBr9.size) ((HC5.out.below hBr9).more hBr9.size) (by omega) (by omega)).mono (R' := fun e w' => e = .returned (.bool true) ∧ Below wr.heap.size wr w') (fun e w' ⟨h, h'⟩ => ⟨by rw [h]; simp, h'⟩))
                        have hBwr := hBw9.trans (hBr9.mono hBw9.size)
                        go_wp2_with (first
                          | (go_at_call 25; refine HS25.out.mono ?_; rintro e w10 ⟨rfl, hB10⟩; have hBw10 := hBwr.trans (hB10.mono hBwr.size))
                          | (go_at_call 12; refine (HA.out _ hBw10).mono ?_; rintro e w11 ⟨rfl, hB11⟩)
                          | fail)
                        go_ret
                        exact ⟨rfl, hBw10.trans (hB11.mono hBw10.size)⟩
  · rw [hg] at HG
    go_enter Tryd.func10, Tryd.ntmps10
    go_wp2_with (first
      | (go_at_call 11; refine (HG.out _).mono ?_; rintro e w0 ⟨rfl, rfl⟩)
      | (go_at_call 12; refine (HA.out _ (Below.refl _ _)).mono ?_; rintro e w8 ⟨rfl, hB8⟩)
      | fail)
    go_ret
    exact ⟨rfl, hB8⟩
end Go.Proofs.YtgdilbilhajgaaaDoor
