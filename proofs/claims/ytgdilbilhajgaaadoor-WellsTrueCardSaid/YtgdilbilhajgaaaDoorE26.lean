/- Over: who gives too much, surely and perhaps. -/
import Derived.Test.YtgdilbilhajgaaaDoorE25
namespace Go.Proofs.YtgdilbilhajgaaaDoor
set_option linter.unusedVariables false
set_option linter.unusedSimpArgs false
open Go Go.RowKit

/-- The memory of Over: the spans, the mains, two rows that grow, in cells n1 and n2. -/
structure OvM (W : World) (B N sb S : Nat) (A : Option Addr) (c : Nat) (m : List (Int × Int)) (sl : List (Int × Int)) (n1 n2 : Nat) (v1 v2 : Value) (x y : List Int) : Prop where
  sbc : W.cell? ⟨sb, 0, none⟩ = some (.slice (some ⟨S, 0, none⟩) m.length m.length)
  mbc : W.cell? ⟨N, 0, none⟩ = some (.slice A m.length c)
  lt : N < B ∧ sb < B ∧ S < B ∧ n1 < B ∧ n2 < B ∧ B ≤ W.heap.size
  ne : N ≤ n1 ∧ N ≠ n1 ∧ N ≤ n2 ∧ N ≠ n2 ∧ sb ≠ n1 ∧ sb ≠ n2 ∧ S ≠ n1 ∧ S ≠ n2 ∧ n1 ≠ n2
  sp : SpB W S sl
  hm : Pairs W N A m
  c1 : W.cell? ⟨n1, 0, none⟩ = some v1
  f1 : W.frozen? ⟨n1, 0, none⟩ = false
  c2 : W.cell? ⟨n2, 0, none⟩ = some v2
  f2 : W.frozen? ⟨n2, 0, none⟩ = false
  o1 : W.ownsRow B 3 1 v1 x.length (x.map I)
  o2 : W.ownsRow B 3 1 v2 y.length (y.map I)
  dis : ∀ b, v1.ownBlock = some b → v2.ownBlock ≠ some b
section
variable {W W2 : World} {B N sb S : Nat} {A : Option Addr} {c : Nat} {m : List (Int × Int)} {sl : List (Int × Int)} {n1 n2 : Nat} {v1 v2 v' : Value} {x y x' : List Int}
theorem OvM.swap (h : OvM W B N sb S A c m sl n1 n2 v1 v2 x y) : OvM W B N sb S A c m sl n2 n1 v2 v1 y x where
  sbc := h.sbc
  mbc := h.mbc
  lt := by have := h.lt; omega
  ne := by have := h.ne; omega
  sp := h.sp
  hm := h.hm
  c1 := h.c2
  f1 := h.f2
  c2 := h.c1
  f2 := h.f1
  o1 := h.o2
  o2 := h.o1
  dis := fun b h1 h2 => h.dis b h2 h1
theorem OvM.drewN (h : OvM W B N sb S A c m sl n1 n2 v1 v2 x y) (n : Nat) : OvM (W.drewN n) B N sb S A c m sl n1 n2 v1 v2 x y := ⟨h.sbc, h.mbc, h.lt, h.ne, h.sp.drewN n, h.hm, h.c1, h.f1, h.c2, h.f2, h.o1, h.o2, h.dis⟩
theorem OvM.drew (h : OvM W B N sb S A c m sl n1 n2 v1 v2 x y) : OvM W.drew B N sb S A c m sl n1 n2 v1 v2 x y := ⟨h.sbc, h.mbc, h.lt, h.ne, h.sp.drew, h.hm, h.c1, h.f1, h.c2, h.f2, h.o1, h.o2, h.dis⟩
theorem own_at {w w' : World} {base n size : Nat} {e : TypeId} {v : Value} {xs : List Value} (h : w.ownsRow base e size v n xs) (hb : ∀ g, v.ownBlock = some g → w'.heap[g]? = w.heap[g]?) : w'.ownsRow base e size v n xs := by
  refine ⟨h.1, h.2.imp id ?_⟩
  rintro ⟨g, cap, cur, rfl, h2, h3, h4⟩
  exact ⟨g, cap, cur, rfl, h2, (hb g rfl).trans h3, h4⟩
theorem OvM.store1 (h : OvM W B N sb S A c m sl n1 n2 v1 v2 x y) (hF : Frm W.heap.size (fun b => v1.ownBlock = some b) W W2) (hown : W2.ownsRow B 3 1 v' x'.length (x'.map I))
    (hat : v'.ownBlock = v1.ownBlock ∨ ∃ g, W.heap.size ≤ g ∧ v'.ownBlock = some g) : OvM (W2.setCell ⟨n1, 0, none⟩ v') B N sb S A c m sl n1 n2 v' v2 x' y ∧ Frm B (fun b => b = n1) W (W2.setCell ⟨n1, 0, none⟩ v') := by
  obtain ⟨l1, l2, l3, l4, l5, l6⟩ := h.lt
  obtain ⟨e0, e1, e2, e3, e4, e5, e6, e7, e8⟩ := h.ne
  have hv1 : ∀ g, v1.ownBlock = some g → B ≤ g := fun g hg => (h.o1.lt g hg).1
  have key : ∀ b, b < W.heap.size → v1.ownBlock ≠ some b → b ≠ n1 → (W2.setCell ⟨n1, 0, none⟩ v').heap[b]? = W.heap[b]? := fun b hb hv hn =>
    (Below.heap_setCell _ _ _ _ (by simpa using hn)).trans (hF.block b hb hv)
  have keyB : ∀ b, b < B → b ≠ n1 → (W2.setCell ⟨n1, 0, none⟩ v').heap[b]? = W.heap[b]? := fun b hb hn => key b (by omega) (fun e => by have := hv1 _ e; omega) hn
  have hn1 : W2.heap[n1]? = W.heap[n1]? := hF.block n1 (by omega) (fun e => by have := hv1 _ e; omega)
  have cell : ∀ b o, b < B → b ≠ n1 → (W2.setCell ⟨n1, 0, none⟩ v').cell? ⟨b, o, none⟩ = W.cell? ⟨b, o, none⟩ := fun b o hb hn => World.cell?_of_block (keyB b hb hn)
  have froz : ∀ b o, b < B → b ≠ n1 → (W2.setCell ⟨n1, 0, none⟩ v').frozen? ⟨b, o, none⟩ = W.frozen? ⟨b, o, none⟩ := fun b o hb hn => World.frozen?_of_block (keyB b hb hn)
  have hsz : W.heap.size ≤ (W2.setCell ⟨n1, 0, none⟩ v').heap.size := by have := hF.size; simpa [World.setCell] using this
  have hc1 : W2.cell? ⟨n1, 0, none⟩ = some v1 := (World.cell?_of_block hn1).trans h.c1
  have hf1 : W2.frozen? ⟨n1, 0, none⟩ = false := (World.frozen?_of_block hn1).trans h.f1
  refine ⟨⟨(cell _ _ l2 e4).trans h.sbc, (cell _ _ l1 e1).trans h.mbc, ⟨l1, l2, l3, l4, l5, by omega⟩, h.ne, h.sp.keep hsz (fun o => cell _ o l3 e6) (fun o => froz _ o l3 e6), h.hm.keep fun p hp => World.cell?_of_block (keyB _ (by omega) (by omega)),
    ?_, by simp [go_sem, hf1], (cell _ _ l5 (fun e => e8 e.symm)).trans h.c2, (froz _ _ l5 (fun e => e8 e.symm)).trans h.f2, ownsRow_setCell_below hown l4 _, own_at h.o2 fun g hg => ?_, fun b hb hb2 => ?_⟩, ?_⟩
  · simp [go_sem, hc1]
  · have h2 := (h.o2.lt g hg)
    exact key g h2.2 (fun e => h.dis g e hg) (by omega)
  · have h2 := (h.o2.lt b hb2)
    rcases hat with e | ⟨g, hg, e⟩
    · exact h.dis b (e ▸ hb) hb2
    · rw [hb] at e
      cases e
      omega
  · have h1 : Frm B (fun b => b = n1) W W2 := hF.mono l6 (fun k hk e => by have := hv1 _ e; omega)
    exact h1.setCell (.inr rfl) _
end
theorem OvM.grown_cell {W W2 : World} {B N sb S : Nat} {A : Option Addr} {c : Nat} {m : List (Int × Int)} {sl : List (Int × Int)} {n1 n2 : Nat} {v1 v2 : Value} {x y : List Int} (h : OvM W B N sb S A c m sl n1 n2 v1 v2 x y) (hF : Frm W.heap.size (fun b => v1.ownBlock = some b) W W2) :
    W2.cell? ⟨n1, 0, none⟩ = some v1 ∧ W2.frozen? ⟨n1, 0, none⟩ = false := by
  have hlt := h.lt
  have hn1 : W2.heap[n1]? = W.heap[n1]? := hF.block n1 (by omega) (fun e => by have := (h.o1.lt _ e).1; omega)
  exact ⟨(World.cell?_of_block hn1).trans h.c1, (World.frozen?_of_block hn1).trans h.f1⟩
theorem own_slice {W : World} {base n size : Nat} {e : TypeId} {v : Value} {xs : List Value} (h : W.ownsRow base e size v n xs) : ∃ A k c, v = .slice A k c := by
  rcases h.2 with ⟨h1, _⟩ | ⟨g, cap, cur, h1, _⟩ <;> exact ⟨_, _, _, h1⟩
theorem cell_one3 (w : World) (v : Value) (t : TypeId) : ∀ j u, [v][j]? = some u → (w.alloc (.cells #[v] t)).cell? ((⟨w.heap.size, 0, none⟩ : Addr).add j) = some u := fun j u hj => by
  rcases j with _ | j
  · simp at hj; subst hj; simp [Addr.add, go_sem]
  · simp at hj
/-- The mains below k that a test lets through. -/
def ovL (f : Nat → Bool) (k : Nat) : List Int := ((List.range k).filter f).map fun i : Nat => (i : Int)
theorem ovL_succ (f : Nat → Bool) (k : Nat) : ovL f (k + 1) = if f k then ovL f k ++ [(k : Int)] else ovL f k := by
  unfold ovL
  rw [List.range_succ, List.filter_append]
  cases h : f k <;> simp [List.filter_cons, h]
theorem ovL_le (f : Nat → Bool) (k : Nat) : (ovL f k).length ≤ k := by
  unfold ovL
  rw [List.length_map]
  have := List.length_filter_le f (List.range k)
  simpa using this

set_option maxRecDepth 100000 in
set_option maxHeartbeats 4000000 in
theorem clo52 (B N sb S : Nat) (A : Option Addr) (c : Nat) (m : List (Int × Int)) (sl : List (Int × Int)) (n1 n2 : Nat) (v1 v2 : Value) (x y : List Int) (k : Nat) (hk : k < m.length) (hsl : sl.length = m.length) (hm16 : m.length ≤ 16) (hx : x.length ≤ 1000) (hy : y.length ≤ 1000) (b1 b2 : Bool)
    (hb1 : b1 = decide (limW m k < (sF sl k).1)) (hb2 : b2 = decide (limW m k < (sF sl k).2)) (W : World) (h : OvM W B N sb S A c m sl n1 n2 v1 v2 x y) :
    Calls Tryd.prog 52 #[I k, .pointer (some ⟨sb, 0, none⟩), .pointer (some ⟨N, 0, none⟩), .pointer (some ⟨n1, 0, none⟩), .pointer (some ⟨n2, 0, none⟩)] W fun e w' => e = .returned (.tuple #[]) ∧
      ∃ v1' v2', OvM w' B N sb S A c m sl n1 n2 v1' v2' (if b1 then x ++ [(k : Int)] else x) (if b2 then y ++ [(k : Int)] else y) ∧ Frm B (fun b => b = n1 ∨ b = n2) W w' := by
  obtain ⟨i0, hi0, hi1, hi2, hi3⟩ := info_parts info3
  have hu : Tryd.prog.underlying 26 = some (.slice 3) := Tryd.underlying26
  have HU := Lib.hid hu; have HI0 := Lib.hid hi0; have HI1 := Lib.hid hi1; have HI2 := Lib.hid hi2; have HI3 := Lib.hid hi3
  clear hu hi0 hi1 hi2 hi3
  -- what is read
  obtain ⟨lo, hlo⟩ : ∃ a : Int, a = (sF sl k).1 := ⟨_, rfl⟩
  obtain ⟨hi, hhi⟩ : ∃ a : Int, a = (sF sl k).2 := ⟨_, rfl⟩
  obtain ⟨lm, hlm⟩ : ∃ a : Int, a = limW m k := ⟨_, rfl⟩
  obtain ⟨ab, ao, rfl, hab, hcc⟩ := h.hm (by omega)
  clear hcc hab
  have HRD : Hid (∀ W' v1' v2' x' y', OvM W' B N sb S (some ⟨ab, ao, none⟩) c m sl n1 n2 v1' v2' x' y' → W'.cell? ⟨S, k * 2, none⟩ = some (I lo) ∧ W'.cell? ⟨S, k * 2 + 1, none⟩ = some (I hi) ∧ W'.cell? ⟨ab, ao + k * 2 + 1, none⟩ = some (I lm)) := Lib.hid fun W' v1' v2' x' y' h' => by
    have hks : k < sl.length := by omega
    have e1 := h'.sp.2 k hks
    obtain ⟨ab', ao', he, _, hc⟩ := h'.hm (by omega)
    cases he
    have e2 := hc k hk
    refine ⟨?_, ?_, ?_⟩
    · rw [hlo]; simpa [sF, List.getD, hks] using e1.1
    · rw [hhi]; simpa [sF, List.getD, hks] using e1.2.1
    · rw [hlm]; simpa [limW, List.getD, hk] using e2.2
  rw [← hlo, ← hlm] at hb1
  rw [← hhi, ← hlm] at hb2
  have hb1' := hb1.symm
  have hb2' := hb2.symm
  clear hlo hhi hlm hb1 hb2
  obtain ⟨r0, r1, r2⟩ := HRD.out _ _ _ _ _ h
  have c0 := h.sbc
  have c1 := h.mbc
  have c2 := h.c1
  have c3 := h.f1
  have c4 := h.c2
  have c5 := h.f2
  have p0 : (0 : Int) ≤ (k : Int) := by omega
  have p1 : (k : Int) < (m.length : Int) := by omega
  have HO := Lib.hid h
  have hls := h.lt
  have HLT := Lib.hid h.lt
  clear h hls
  cases b1
  · go_enter Tryd.func52, Tryd.ntmps52
    go_wp2_with (fail)
    go_quiet (fail)
    have H0 := Lib.hid (HO.out.drewN nq)
    have F0 : Hid (Frm B (fun b => b = n1 ∨ b = n2) W (W.drewN nq)) := Lib.hid ((Frm.refl _ _ _).drewN nq)
    clear r0 r1 r2 c0 c1 c2 c3 c4 c5
    generalize W.drewN nq = W0 at *
    go_wp2
    have H3 := H0
    have F3 := F0
    clear H0 F0
    generalize W0 = W3 at *
    cases b2
    · obtain ⟨qr0, qr1, qr2⟩ := HRD.out _ _ _ _ _ H3.out
      have qc0 := H3.out.sbc
      have qc1 := H3.out.mbc
      have qc2 := H3.out.c1
      have qc3 := H3.out.f1
      have qc4 := H3.out.c2
      have qc5 := H3.out.f2
      have ql1 : n1 < W3.heap.size := by have := H3.out.lt; omega
      have ql2 : n2 < W3.heap.size := by have := H3.out.lt; omega
      have ql0 : B ≤ W3.heap.size := by have := H3.out.lt; omega
      go_quiet (fail)
      have H4 := Lib.hid (H3.out.drewN nq)
      have F4 : Hid (Frm B (fun b => b = n1 ∨ b = n2) W (W3.drewN nq)) := Lib.hid (F3.out.drewN nq)
      clear qr0 qr1 qr2 qc0 qc1 qc2 qc3 qc4 qc5 ql0 ql1 ql2
      generalize W3.drewN nq = W4 at *
      go_wp2
      exact bodyPost_end (results_none rfl _ _ _) rfl ⟨rfl, ⟨_, _, H4.out⟩, F4.out⟩
    · obtain ⟨qr0, qr1, qr2⟩ := HRD.out _ _ _ _ _ H3.out
      have qc0 := H3.out.sbc
      have qc1 := H3.out.mbc
      have qc2 := H3.out.c1
      have qc3 := H3.out.f1
      have qc4 := H3.out.c2
      have qc5 := H3.out.f2
      have ql1 : n1 < W3.heap.size := by have := H3.out.lt; omega
      have ql2 : n2 < W3.heap.size := by have := H3.out.lt; omega
      have ql0 : B ≤ W3.heap.size := by have := H3.out.lt; omega
      go_quiet (fail)
      have H4 := Lib.hid (H3.out.drewN nq)
      have F4 : Hid (Frm B (fun b => b = n1 ∨ b = n2) W (W3.drewN nq)) := Lib.hid (F3.out.drewN nq)
      clear qr0 qr1 qr2 qc0 qc1 qc2 qc3 qc4 qc5 ql0 ql1 ql2
      generalize W3.drewN nq = W4 at *
      obtain ⟨sr0, sr1, sr2⟩ := HRD.out _ _ _ _ _ H4.out
      have sc0 := H4.out.sbc
      have sc1 := H4.out.mbc
      have sc2 := H4.out.c1
      have sc3 := H4.out.f1
      have sc4 := H4.out.c2
      have sc5 := H4.out.f2
      have sl1 : n1 < W4.heap.size := by have := H4.out.lt; omega
      have sl2 : n2 < W4.heap.size := by have := H4.out.lt; omega
      have sl0 : B ≤ W4.heap.size := by have := H4.out.lt; omega
      have HW6 := Lib.hid (H4.out.o2.alloc (.cells #[I k] 3))
      have HC6 := Lib.hid (cell_one3 W4 (I k) 3)
      go_wp2_with (first
        | (at_builtin; refine wpList_append_own_at _ rfl _ _ 26 rfl B 3 i0 (I 0) 1 8 HU.out HI0.out HI1.out HI2.out HI3.out rfl (by decide) _ _ _ rfl HW6.out ⟨W4.heap.size, 0, none⟩ 1 1 [I k] rfl rfl HC6.out (by simp [Value.oneCell']) (by simp [maxLen]; omega) (by omega) (by simp; omega) ?_; intro v6 w6 hown6 hgrow6 _ hat6; obtain ⟨A6, m6, c6, rfl⟩ := own_slice hown6;
           have hF6 : Frm W4.heap.size (fun b => v2.ownBlock = some b) W4 w6 := ((Frm.refl _ _ W4).alloc (Nat.le_refl _) _).grown hgrow6 (by simp) (fun k hk => .inr hk); obtain ⟨ga6, gb6⟩ := OvM.grown_cell H4.out.swap hF6;
           obtain ⟨hS6, hG6⟩ := OvM.store1 (x' := y ++ [(k : Int)]) H4.out.swap hF6 (by simpa using hown6) (hat6.imp id fun e => ⟨_, by simp, e⟩); have HS6 := Lib.hid hS6; have HG6 := Lib.hid hG6; clear hS6 hG6 hF6 hgrow6 hown6 hat6)
        | fail)
      clear HW6 HC6
      go_wp2
      exact bodyPost_end (results_none rfl _ _ _) rfl ⟨rfl, ⟨_, _, HS6.out.swap⟩, F4.out.trans (HG6.out.mono (Nat.le_refl _) (fun k _ h => .inr h))⟩
  · go_enter Tryd.func52, Tryd.ntmps52
    go_wp2_with (fail)
    go_quiet (fail)
    have H0 := Lib.hid (HO.out.drewN nq)
    have F0 : Hid (Frm B (fun b => b = n1 ∨ b = n2) W (W.drewN nq)) := Lib.hid ((Frm.refl _ _ _).drewN nq)
    clear r0 r1 r2 c0 c1 c2 c3 c4 c5
    generalize W.drewN nq = W0 at *
    obtain ⟨tr0, tr1, tr2⟩ := HRD.out _ _ _ _ _ H0.out
    have tc0 := H0.out.sbc
    have tc1 := H0.out.mbc
    have tc2 := H0.out.c1
    have tc3 := H0.out.f1
    have tc4 := H0.out.c2
    have tc5 := H0.out.f2
    have tl1 : n1 < W0.heap.size := by have := H0.out.lt; omega
    have tl2 : n2 < W0.heap.size := by have := H0.out.lt; omega
    have tl0 : B ≤ W0.heap.size := by have := H0.out.lt; omega
    have HW5 := Lib.hid (H0.out.o1.alloc (.cells #[I k] 3))
    have HC5 := Lib.hid (cell_one3 W0 (I k) 3)
    go_wp2_with (first
      | (at_builtin; refine wpList_append_own_at _ rfl _ _ 26 rfl B 3 i0 (I 0) 1 8 HU.out HI0.out HI1.out HI2.out HI3.out rfl (by decide) _ _ _ rfl HW5.out ⟨W0.heap.size, 0, none⟩ 1 1 [I k] rfl rfl HC5.out (by simp [Value.oneCell']) (by simp [maxLen]; omega) (by omega) (by simp; omega) ?_; intro v5 w5 hown5 hgrow5 _ hat5; obtain ⟨A5, m5, c5, rfl⟩ := own_slice hown5;
         have hF5 : Frm W0.heap.size (fun b => v1.ownBlock = some b) W0 w5 := ((Frm.refl _ _ W0).alloc (Nat.le_refl _) _).grown hgrow5 (by simp) (fun k hk => .inr hk); obtain ⟨ga5, gb5⟩ := OvM.grown_cell H0.out hF5;
         obtain ⟨hS5, hG5⟩ := OvM.store1 (x' := x ++ [(k : Int)]) H0.out hF5 (by simpa using hown5) (hat5.imp id fun e => ⟨_, by simp, e⟩); have HS5 := Lib.hid hS5; have HG5 := Lib.hid hG5; clear hS5 hG5 hF5 hgrow5 hown5 hat5)
      | fail)
    clear HW5 HC5
    go_wp2
    have H3 := HS5
    have F3 : Hid (Frm B (fun b => b = n1 ∨ b = n2) W (w5.setCell ⟨n1, 0, none⟩ (.slice A5 m5 c5))) := Lib.hid (F0.out.trans (HG5.out.mono (Nat.le_refl _) (fun k _ h => .inl h)))
    clear HS5 HG5 tr0 tr1 tr2 tc0 tc1 tc2 tc3 tc4 tc5 tl0 tl1 tl2 H0 F0
    generalize w5.setCell ⟨n1, 0, none⟩ (.slice A5 m5 c5) = W3 at *
    cases b2
    · obtain ⟨qr0, qr1, qr2⟩ := HRD.out _ _ _ _ _ H3.out
      have qc0 := H3.out.sbc
      have qc1 := H3.out.mbc
      have qc2 := H3.out.c1
      have qc3 := H3.out.f1
      have qc4 := H3.out.c2
      have qc5 := H3.out.f2
      have ql1 : n1 < W3.heap.size := by have := H3.out.lt; omega
      have ql2 : n2 < W3.heap.size := by have := H3.out.lt; omega
      have ql0 : B ≤ W3.heap.size := by have := H3.out.lt; omega
      go_quiet (fail)
      have H4 := Lib.hid (H3.out.drewN nq)
      have F4 : Hid (Frm B (fun b => b = n1 ∨ b = n2) W (W3.drewN nq)) := Lib.hid (F3.out.drewN nq)
      clear qr0 qr1 qr2 qc0 qc1 qc2 qc3 qc4 qc5 ql0 ql1 ql2
      generalize W3.drewN nq = W4 at *
      go_wp2
      exact bodyPost_end (results_none rfl _ _ _) rfl ⟨rfl, ⟨_, _, H4.out⟩, F4.out⟩
    · obtain ⟨qr0, qr1, qr2⟩ := HRD.out _ _ _ _ _ H3.out
      have qc0 := H3.out.sbc
      have qc1 := H3.out.mbc
      have qc2 := H3.out.c1
      have qc3 := H3.out.f1
      have qc4 := H3.out.c2
      have qc5 := H3.out.f2
      have ql1 : n1 < W3.heap.size := by have := H3.out.lt; omega
      have ql2 : n2 < W3.heap.size := by have := H3.out.lt; omega
      have ql0 : B ≤ W3.heap.size := by have := H3.out.lt; omega
      go_quiet (fail)
      have H4 := Lib.hid (H3.out.drewN nq)
      have F4 : Hid (Frm B (fun b => b = n1 ∨ b = n2) W (W3.drewN nq)) := Lib.hid (F3.out.drewN nq)
      clear qr0 qr1 qr2 qc0 qc1 qc2 qc3 qc4 qc5 ql0 ql1 ql2
      generalize W3.drewN nq = W4 at *
      obtain ⟨sr0, sr1, sr2⟩ := HRD.out _ _ _ _ _ H4.out
      have sc0 := H4.out.sbc
      have sc1 := H4.out.mbc
      have sc2 := H4.out.c1
      have sc3 := H4.out.f1
      have sc4 := H4.out.c2
      have sc5 := H4.out.f2
      have sl1 : n1 < W4.heap.size := by have := H4.out.lt; omega
      have sl2 : n2 < W4.heap.size := by have := H4.out.lt; omega
      have sl0 : B ≤ W4.heap.size := by have := H4.out.lt; omega
      have HW6 := Lib.hid (H4.out.o2.alloc (.cells #[I k] 3))
      have HC6 := Lib.hid (cell_one3 W4 (I k) 3)
      go_wp2_with (first
        | (at_builtin; refine wpList_append_own_at _ rfl _ _ 26 rfl B 3 i0 (I 0) 1 8 HU.out HI0.out HI1.out HI2.out HI3.out rfl (by decide) _ _ _ rfl HW6.out ⟨W4.heap.size, 0, none⟩ 1 1 [I k] rfl rfl HC6.out (by simp [Value.oneCell']) (by simp [maxLen]; omega) (by omega) (by simp; omega) ?_; intro v6 w6 hown6 hgrow6 _ hat6; obtain ⟨A6, m6, c6, rfl⟩ := own_slice hown6;
           have hF6 : Frm W4.heap.size (fun b => v2.ownBlock = some b) W4 w6 := ((Frm.refl _ _ W4).alloc (Nat.le_refl _) _).grown hgrow6 (by simp) (fun k hk => .inr hk); obtain ⟨ga6, gb6⟩ := OvM.grown_cell H4.out.swap hF6;
           obtain ⟨hS6, hG6⟩ := OvM.store1 (x' := y ++ [(k : Int)]) H4.out.swap hF6 (by simpa using hown6) (hat6.imp id fun e => ⟨_, by simp, e⟩); have HS6 := Lib.hid hS6; have HG6 := Lib.hid hG6; clear hS6 hG6 hF6 hgrow6 hown6 hat6)
        | fail)
      clear HW6 HC6
      go_wp2
      exact bodyPost_end (results_none rfl _ _ _) rfl ⟨rfl, ⟨_, _, HS6.out.swap⟩, F4.out.trans (HG6.out.mono (Nat.le_refl _) (fun k _ h => .inr h))⟩
end Go.Proofs.YtgdilbilhajgaaaDoor
/- Over. -/
namespace Go.Proofs.YtgdilbilhajgaaaDoor
set_option linter.unusedVariables false
set_option linter.unusedSimpArgs false
open Go Go.RowKit

theorem over_up {A : Option Addr} {c : Nat} {m : List (Int × Int)} {sl : List (Int × Int)} (hsl : sl.length = m.length) (hok : MOk m) {W1 : World} {N n1 n2 sb S B mb : Nat} (h0 : OvM W1 B N sb S A c m sl n1 n2 nilS nilS [] []) (hmb : mb < B) (hmbc : W1.cell? ⟨mb, 0, none⟩ = some (.slice A m.length c)) (hne : mb ≠ n1 ∧ mb ≠ n2) :
    Calls Tryd.prog 72 #[.func (.func 52) #[] #[.pointer (some ⟨sb, 0, none⟩), .pointer (some ⟨N, 0, none⟩), .pointer (some ⟨n1, 0, none⟩), .pointer (some ⟨n2, 0, none⟩)], .pointer (some ⟨mb, 0, none⟩)] W1 fun e w' => e = .returned (.tuple #[]) ∧
      ∃ v1 v2, OvM w' B N sb S A c m sl n1 n2 v1 v2 (ovL (fun i => decide (limW m i < (sF sl i).1)) m.length) (ovL (fun i => decide (limW m i < (sF sl i).2)) m.length) ∧ Frm B (fun b => b = n1 ∨ b = n2) W1 w' := by
  have hle := hok.le
  refine up72 52 _ (enters_of Tryd.func52 (by kernel_rfl) rfl) mb c m.length A (fun k W => ∃ v1 v2, OvM W B N sb S A c m sl n1 n2 v1 v2 (ovL (fun i => decide (limW m i < (sF sl i).1)) k) (ovL (fun i => decide (limW m i < (sF sl i).2)) k) ∧ Frm B (fun b => b = n1 ∨ b = n2) W1 W) W1 (by omega) (fun k W h => ?_) ⟨_, _, h0, Frm.refl _ _ _⟩ (fun k hk W h => ?_)
  · obtain ⟨v1, v2, hO, hF⟩ := h
    have := hO.lt
    refine ⟨by omega, (World.cell?_of_block (hF.block mb hmb (fun e => by rcases e with e | e; exact hne.1 e; exact hne.2 e))).trans hmbc⟩
  · obtain ⟨v1, v2, hO, hF⟩ := h
    have l1 := ovL_le (fun i => decide (limW m i < (sF sl i).1)) k
    have l2 := ovL_le (fun i => decide (limW m i < (sF sl i).2)) k
    refine (clo52 B N sb S A c m sl n1 n2 v1 v2 _ _ k hk hsl hle (by omega) (by omega) _ _ rfl rfl W hO).mono ?_
    rintro e w' ⟨rfl, v1', v2', hO', hF'⟩
    refine ⟨rfl, v1', v2', ?_, hF.trans hF'⟩
    rw [ovL_succ, ovL_succ]
    exact hO'
def surelyL (m : List (Int × Int)) (d : Nat → Int × Int) : List Int := ovL (fun i => decide (limW m i < (d i).1)) m.length
def perhapsL (m : List (Int × Int)) (d : Nat → Int × Int) : List Int := ovL (fun i => decide (limW m i < (d i).2)) m.length
theorem ov_start {w w1 : World} {A : Option Addr} {c S : Nat} {m : List (Int × Int)} {sl : List (Int × Int)} (hm : Pairs w w.heap.size A m) (hB : Below w.heap.size w w1) (e0 : w1.cell? ⟨w.heap.size, 0, none⟩ = some (.slice A m.length c)) (e1 : w1.cell? ⟨w.heap.size + 1, 0, none⟩ = some nilS) (e2 : w1.cell? ⟨w.heap.size + 1 + 1, 0, none⟩ = some nilS)
    (e3 : w1.frozen? ⟨w.heap.size + 1, 0, none⟩ = false) (e4 : w1.frozen? ⟨w.heap.size + 1 + 1, 0, none⟩ = false) (hz : w.heap.size + 3 ≤ w1.heap.size) (hS : SpB w1 S sl) (hSz : w.heap.size + 1 + 1 + 1 ≤ S) :
    OvM (w1.alloc (.cells #[.slice (some ⟨S, 0, none⟩) m.length m.length] 63)) (w1.heap.size + 1) w.heap.size w1.heap.size S A c m sl (w.heap.size + 1) (w.heap.size + 1 + 1) nilS nilS [] [] := by
  have hb : Below w1.heap.size w1 (w1.alloc (.cells #[.slice (some ⟨S, 0, none⟩) m.length m.length] 63)) := (Below.refl _ _).alloc (Nat.le_refl _) _
  have hSz2 := hS.1
  refine ⟨by simp [go_sem], (hb.cell (p := ⟨_, _, none⟩) (by simp; omega)).trans e0, ⟨by omega, by omega, by omega, by omega, by omega, by simp⟩, by omega, hS.call hb, hm.below (hB.trans (hb.mono hB.size)), (hb.cell (p := ⟨_, _, none⟩) (by simp; omega)).trans e1, (hb.frozen (p := ⟨_, _, none⟩) (by simp; omega)).trans e3, (hb.cell (p := ⟨_, _, none⟩) (by simp; omega)).trans e2, (hb.frozen (p := ⟨_, _, none⟩) (by simp; omega)).trans e4,
    World.ownsRow_nil _ _ _ _, World.ownsRow_nil _ _ _ _, fun b h => by cases h⟩
/-- What Over answers. -/
def OverPost (m : List (Int × Int)) (l : List (Int × Int × Int)) (w : World) (e : Ending) (w' : World) : Prop :=
  Below w.heap.size w w' ∧ ((¬ InOk m l ∧ e = .returned (.tuple #[nilS, nilS, I 1])) ∨ (InOk m l ∧ (¬ ∃ x, Feas m l x) ∧ e = .returned (.tuple #[nilS, nilS, I 6])) ∨
    (InOk m l ∧ ∃ v1 v2 d, e = .returned (.tuple #[v1, v2, I 0]) ∧ w'.ownsRow w.heap.size 3 1 v1 (surelyL m d).length ((surelyL m d).map I) ∧ w'.ownsRow w.heap.size 3 1 v2 (perhapsL m d).length ((perhapsL m d).map I) ∧ (∀ b, v1.ownBlock = some b → v2.ownBlock ≠ some b) ∧ IsSpans m l d))
theorem over_ne {m : List (Int × Int)} (hok : MOk m) {W : World} {p : Addr} {A : Option Addr} {c : Nat} (h1 : W.cell? p = some (.slice A m.length c)) (h2 : W.cell? p = some nilS) : False := by
  have := hok.pos
  have h3 : Value.slice A m.length c = nilS := Option.some.inj (h1.symm.trans h2)
  injection h3
  omega
set_option maxRecDepth 100000 in
set_option maxHeartbeats 4000000 in
theorem over23 (A B : Option Addr) (c cb : Nat) (m : List (Int × Int)) (l : List (Int × Int × Int)) (w : World) (hm : Pairs w w.heap.size A m) (hml : m.length ≤ 9223372036854775807) (hl : Threes w w.heap.size B l) (hll : l.length ≤ 9223372036854775807) :
    Calls Tryd.prog 23 #[.slice A m.length c, .slice B l.length cb] w (OverPost m l w) := by
  have HRD : Hid (∀ W, Below w.heap.size w W → Calls Tryd.prog 32 #[.slice A m.length c, .slice B l.length cb, .func (.func 45) #[] #[]] W (RdPost m l A c true W)) := Lib.hid fun W hW =>
    read32 45 #[] (enters_of Tryd.func45 (by kernel_rfl) rfl) true A B c cb m l W ((hm.below hW).more hW.size) hml ((hl.below hW).more hW.size) hll (always_fn W)
  have HM := Lib.hid hm
  clear hm hl
  go_enter Tryd.func23, Tryd.ntmps23
  go_wp2_with (first
    | (go_at_call 32; refine (HRD.out _ (by (repeat' (first | assumption | exact Below.refl _ _ | refine Below.drew ?_ | refine below_drewN ?_ _ | refine Below.setCell ?_ (by first | omega | (simp; done) | (simp; omega)) _ | refine Below.alloc ?_ (by first | omega | (simp; done) | (simp; omega)) _ | refine Below.trans ?_ (Below.mono (by assumption) (by first | omega | (simp; done) | (simp; omega))))))).mono ?_; rintro e w1 ⟨hB1, ⟨hno, rfl⟩ | ⟨hok, ht, rfl⟩ | ⟨hok, _, hno, rfl⟩ | ⟨hok, _, T, S, sl, rfl, hTz, hSz, hT, hS, hlen, hsp⟩⟩ <;> (try cases ht) <;> (have hB1' : Below (w.heap.size + 3) (((w.alloc (.cells #[.slice A m.length c] 22)).alloc (.cells #[nilS] 26)).alloc (.cells #[nilS] 26)) w1 := (by simpa using hB1); have hBw : Below w.heap.size w w1 := below_call (by (repeat' (first | assumption | exact Below.refl _ _ | refine Below.drew ?_ | refine below_drewN ?_ _ | refine Below.setCell ?_ (by first | omega | (simp; done) | (simp; omega)) _ | refine Below.alloc ?_ (by first | omega | (simp; done) | (simp; omega)) _ | refine Below.trans ?_ (Below.mono (by assumption) (by first | omega | (simp; done) | (simp; omega)))))) hB1; have HBW := Lib.hid hBw; have e0 : w1.cell? ⟨w.heap.size, 0, none⟩ = some (.slice A m.length c) := (by rw [hB1'.cell (p := ⟨_, _, none⟩) (by simp)]; simp [go_sem]); have e1 : w1.cell? ⟨w.heap.size + 1, 0, none⟩ = some nilS := (by rw [hB1'.cell (p := ⟨_, _, none⟩) (by simp)]; simp [go_sem]); have e2 : w1.cell? ⟨w.heap.size + 1 + 1, 0, none⟩ = some nilS := (by rw [hB1'.cell (p := ⟨_, _, none⟩) (by simp)]; simp [go_sem]); have e3 : w1.frozen? ⟨w.heap.size + 1, 0, none⟩ = false := (by rw [hB1'.frozen (p := ⟨_, _, none⟩) (by simp)]; simp [go_sem]); have e4 : w1.frozen? ⟨w.heap.size + 1 + 1, 0, none⟩ = false := (by rw [hB1'.frozen (p := ⟨_, _, none⟩) (by simp)]; simp [go_sem]); have hz1 : w.heap.size + 3 ≤ w1.heap.size := (by have := hB1'.size; simpa using this); have l0 : w.heap.size < w1.heap.size := (by omega); have l1 : w.heap.size + 1 < w1.heap.size := (by omega); have l2 : w.heap.size + 1 + 1 < w1.heap.size := (by omega); clear hB1 hB1' hBw) <;> (try have HNO := Lib.hid hno) <;> (try have HOK := Lib.hid hok) <;> (try have HT := Lib.hid hT) <;> (try have HS := Lib.hid hS) <;> (try have HSP := Lib.hid hsp) <;> (try clear hno) <;> (try clear hok) <;> (try (obtain ⟨mb, hmz, hmc, t2, t3⟩ := HT.out.fns; have hTz1 := HT.out.hT; simp at hTz hSz)) <;> (try clear hT hS hsp))
    | (go_at_call 72; refine (over_up hlen HOK.out.1 (ov_start HM.out HBW.out e0 e1 e2 e3 e4 hz1 HS.out hSz) (by omega) (((below1 _ _).cell (p := ⟨mb, 0, none⟩) hmz).trans hmc) ⟨fun e => over_ne HOK.out.1 (e ▸ hmc) e1, fun e => over_ne HOK.out.1 (e ▸ hmc) e2⟩).mono ?_; rintro e w2 ⟨rfl, v1, v2, hO, hF⟩; have HO := Lib.hid hO; have HF := Lib.hid hF; clear hO hF)
    | fail)
  · refine bodyPost_ret (v := .tuple #[nilS, nilS, I 1]) (by simp [results, Tryd.results23, go_sem, e1, e2, l1, l2]) rfl ⟨?_, .inl ⟨HNO.out, rfl⟩⟩
    have hb := HBW.out
    (repeat' (first | assumption | exact Below.refl _ _ | refine Below.drew ?_ | refine below_drewN ?_ _ | refine Below.setCell ?_ (by first | omega | (simp; done) | (simp; omega)) _ | refine Below.alloc ?_ (by first | omega | (simp; done) | (simp; omega)) _ | refine Below.trans ?_ (Below.mono (by assumption) (by first | omega | (simp; done) | (simp; omega)))))
  · refine bodyPost_ret (v := .tuple #[nilS, nilS, I 6]) (by simp [results, Tryd.results23, go_sem, e1, e2, l1, l2]) rfl ⟨?_, .inr (.inl ⟨HOK.out, HNO.out, rfl⟩)⟩
    have hb := HBW.out
    (repeat' (first | assumption | exact Below.refl _ _ | refine Below.drew ?_ | refine below_drewN ?_ _ | refine Below.setCell ?_ (by first | omega | (simp; done) | (simp; omega)) _ | refine Below.alloc ?_ (by first | omega | (simp; done) | (simp; omega)) _ | refine Below.trans ?_ (Below.mono (by assumption) (by first | omega | (simp; done) | (simp; omega)))))
  · obtain ⟨A1, k1, q1, rfl⟩ := own_slice HO.out.o1
    obtain ⟨A2, k2, q2, rfl⟩ := own_slice HO.out.o2
    clear e0 e1 e2 e3 e4
    refine (wpIn_wide (n := 9)).1 ?_
    refine wpIn_region_valsG [some 25, some 26, none, none, some 6] (nthV [.slice A1 k1 q1, .slice A2 k2 q2, undef, undef, I 0])
      (fun W => OvM W (w1.heap.size + 1) w.heap.size w1.heap.size S A c m sl (w.heap.size + 1) (w.heap.size + 1 + 1) (.slice A1 k1 q1) (.slice A2 k2 q2) (surelyL m (sF sl)) (perhapsL m (sF sl)) ∧ Frm (w1.heap.size + 1) (fun b => b = w.heap.size + 1 ∨ b = w.heap.size + 1 + 1) (w1.alloc (.cells #[.slice (some ⟨S, 0, none⟩) m.length m.length] 63)) W)
      rfl (by kernel_rfl) (by kernel_rfl) (by kernel_rfl) (fun _ d _ _ _ h => by cases d <;> exact h) ⟨HO.out.drew, HF.out.drew⟩ ?_ ?_
    · refine ⟨?_, ?_, ?_, ?_, ?_, trivial⟩
      all_goals ((intro x W hC K hK; have HK := Lib.hid hK; have HC := Lib.hid hC; clear hC hK; simp only [putD, nthV, Act.put, List.setIfInBounds_toArray, List.set_cons_succ, List.set_cons_zero, Nat.zero_add, Nat.reduceAdd, Nat.reduceEqDiff, reduceIte , Nat.succ_ne_zero, Nat.zero_ne_one, Nat.one_ne_zero] at HK ⊢); have c1 := HC.out.1.c1; have c2 := HC.out.1.c2; have f1 := HC.out.1.f1; have f2 := HC.out.1.f2; refine ⟨rfl, ?_⟩)
      · (refine op_li rfl ?_; go_simp; exact HK.out _ HC.out)
      · (refine op_li rfl ?_; go_simp; exact HK.out _ HC.out)
      · gi_wp2
        have h1 := HC.out.1.store1 (Frm.refl _ _ _) HC.out.1.o1 (.inl rfl)
        exact HK.out _ ⟨h1.1, HC.out.2.trans (h1.2.mono (Nat.le_refl _) (fun k _ h => .inl h))⟩
      · gi_wp2
        have h1 := HC.out.1.swap.store1 (Frm.refl _ _ _) HC.out.1.o2 (.inl rfl)
        exact HK.out _ ⟨h1.1.swap, HC.out.2.trans (h1.2.mono (Nat.le_refl _) (fun k _ h => .inr h))⟩
      · (refine op_li rfl ?_; go_simp; exact HK.out _ HC.out)
    · (intro W hC; have HC := Lib.hid hC; clear hC; simp only [putD, nthV, Act.put, List.setIfInBounds_toArray, List.set_cons_succ, List.set_cons_zero, Nat.zero_add, Nat.reduceAdd])
      have c1 := HC.out.1.c1
      have c2 := HC.out.1.c2
      go_wp2
      refine bodyPost_ret (v := .tuple #[.slice A1 k1 q1, .slice A2 k2 q2, I 0]) (by simp [results, Tryd.results23, go_sem, c1, c2]) rfl ⟨?_, .inr (.inr ⟨HOK.out, _, _, sF sl, rfl, own_base HC.out.1.o1 (by omega), own_base HC.out.1.o2 (by omega), HC.out.1.dis, HSP.out⟩)⟩
      exact (HBW.out.trans ((below1 _ _).mono HBW.out.size)).trans (HC.out.2.below (by omega) (fun b hb h => by omega))
end Go.Proofs.YtgdilbilhajgaaaDoor
