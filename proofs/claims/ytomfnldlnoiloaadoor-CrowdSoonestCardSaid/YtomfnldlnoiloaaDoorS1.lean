/- Arcs are added to the network. -/
import Derived.Test.YtomfnldlnoiloaaDoorMq
import Derived.Test.YtomfnldlnoiloaaDoorPa
import Derived.Deep.AppendLies
namespace Go.Proofs.YtomfnldlnoiloaaDoor
set_option linter.unusedVariables false
set_option linter.unusedSimpArgs false
open Go Go.RowKit Go.Maps

def addTo (to_ : Stp → Nat) (m x y : Nat) (p : Stp) : Nat := if p.1 = m then (if p.2 then y else x) else to_ p
def addLeft (left : Stp → Int) (m : Nat) (room : Int) (p : Stp) : Int := if p.1 = m then (if p.2 then room else 0) else left p
def addOuts (outs : Nat → List Stp) (m x y z : Nat) : List Stp := if z = y then (if y = x then outs x ++ [(m, true)] else outs y) ++ [(m, false)] else if z = x then outs x ++ [(m, true)] else outs z
theorem info99 : (Tryd.prog.info? 99).map (fun i => (i.zero, i.size, i.bytes)) = some (some (.pointer none), 1, 8) := by kernel_rfl
theorem zero100 (w : World) : (zeroValue 100).run Tryd.prog w = .ok (.slice none 0 0) w := by
  have h : (Tryd.prog.info? 100).bind (·.zero) = some (.slice none 0 0) := by kernel_rfl
  simp [zeroValue, typeInfo]
  cases hi : Tryd.prog.info? 100 with
  | none => rw [hi] at h; cases h
  | some i => rw [hi] at h; simp at h; simp [h]
theorem cell_lt {w : World} {a : Addr} {v : Value} (h : w.cell? a = some v) : a.block < w.heap.size := by
  unfold World.cell? at h
  rcases Nat.lt_or_ge a.block w.heap.size with h1 | h1
  · exact h1
  · rw [Array.getElem?_eq_none h1] at h; cases h
set_option maxRecDepth 100000 in
set_option maxHeartbeats 8000000 in
theorem add53 (base top N m : Nat) (k : Kt) (to_ : Stp → Nat) (outs : Nat → List Stp) (left : Stp → Int) (d : Nt) (w : World) (hN : NetAt base top N m k to_ outs left d w) (hk : KtOk k N) (x y : Nat) (hx : x < N) (hy : y < N) (room : Int) (hl : ∀ z, z < N → (outs z).length ≤ 10000)
    (tb c : Nat) (c0 : w.cell? ⟨tb, 0, none⟩ = some (I (k.a y))) (c1 : w.cell? ⟨tb, 1, none⟩ = some (I (k.b y))) (c2 : w.cell? ⟨tb, 2, none⟩ = some (I (k.c y))) :
    Calls Tryd.prog 53 #[.map (some d.b), kn (k.a x) (k.b x) (k.c x), I room, .slice (some ⟨tb, 0, none⟩) 1 c] w fun e w' => (∃ v, e = .returned v) ∧ Below base w w' ∧
      ∃ d', d'.b = d.b ∧ d'.nm ≤ d.nm + 2 ∧ NetAt base w'.heap.size N (m + 1) k (addTo to_ m x y) (addOuts outs m x y) (addLeft left m room) d' w' := by
  have HN := Lib.hid hN
  have HK := Lib.hid hk
  have HL := Lib.hid hl
  clear hN hk hl
  obtain ⟨xa, e1⟩ : ∃ z, k.a x = z := ⟨_, rfl⟩
  obtain ⟨xb, e2⟩ : ∃ z, k.b x = z := ⟨_, rfl⟩
  obtain ⟨xc, e3⟩ : ∃ z, k.c x = z := ⟨_, rfl⟩
  obtain ⟨ya, e4⟩ : ∃ z, k.a y = z := ⟨_, rfl⟩
  obtain ⟨yb, e5⟩ : ∃ z, k.b y = z := ⟨_, rfl⟩
  obtain ⟨yc, e6⟩ : ∃ z, k.c y = z := ⟨_, rfl⟩
  rw [e1, e2, e3]
  rw [e4] at c0
  rw [e5] at c1
  rw [e6] at c2
  have HE := Lib.hid (⟨⟨e1, e2, e3⟩, e4, e5, e6⟩ : (k.a x = xa ∧ k.b x = xb ∧ k.c x = xc) ∧ k.a y = ya ∧ k.b y = yb ∧ k.c y = yc)
  clear e1 e2 e3 e4 e5 e6
  go_enter Tryd.func53, Tryd.ntmps53
  go_wp2
  go_loopw [13] (fun i wr => (i = I 0 ∧ wr = w.alloc (.cells #[I xa, I xb, I xc] 89)) ∨ (i = I 1 ∧ Hid (Below base w wr ∧ ∃ d', d'.b = d.b ∧ d'.nm ≤ d.nm + 2 ∧ NetAt base wr.heap.size N (m + 1) k (addTo to_ m x y) (addOuts outs m x y) (addLeft left m room) d' wr))) (fun i _ => (1 - intOf i).toNat)
  case atStart => exact .inl ⟨rfl, rfl⟩
  case round =>
    obtain ⟨rfl, rfl⟩ | ⟨rfl, HF⟩ := hrel
    · have hb := HN.out.mb
      have ht := HN.out.top
      have hadlt : tb < w.heap.size := cell_lt c0
      have a0 := (World.cell?_alloc_lt w (.cells #[I xa, I xb, I xc] 89) ⟨tb, 0, none⟩ hadlt).trans c0
      have a1 := (World.cell?_alloc_lt w (.cells #[I xa, I xb, I xc] 89) ⟨tb, 1, none⟩ hadlt).trans c1
      have a2 := (World.cell?_alloc_lt w (.cells #[I xa, I xb, I xc] 89) ⟨tb, 2, none⟩ hadlt).trans c2
      obtain ⟨PW, hPW⟩ : ∃ PW : World → Prop, ∀ W, PW W = ((NetAt base W.heap.size N (m + 1) k (fun p => if p.1 = m then (if p.2 then y else x) else to_ p) outs (fun p => if p.1 = m then (if p.2 then room else 0) else left p) { d with blk := fun p => if p.1 = m then (if p.2 then w.heap.size + 1 + 1 else w.heap.size + 1 + 1 + 1) else d.blk p } W ∧ Below w.heap.size w W) ∧
          Box W w.heap.size [I xa, I xb, I xc] ∧ Box W (w.heap.size + 1) [I ya, I yb, I yc] ∧ Box W (w.heap.size + 1 + 1) [I ya, I yb, I yc, I room, ptr (w.heap.size + 1 + 1 + 1)] ∧ Box W (w.heap.size + 1 + 1 + 1 + 1) [ptr (w.heap.size + 1 + 1)] ∧ W.heap.size = w.heap.size + 5) := ⟨_, fun _ => rfl⟩
      have HP : Hid (∀ W, W = ((((w.alloc (.cells #[I xa, I xb, I xc] 89)).alloc (.cells #[I ya, I yb, I yc] 89)).alloc (.cells #[I ya, I yb, I yc, I room, ptr (w.heap.size + 1 + 1 + 1)] 102)).alloc (.cells #[I xa, I xb, I xc, I 0, ptr (w.heap.size + 1 + 1)] 102)).alloc (.cells #[ptr (w.heap.size + 1 + 1)] 99) →
          PW W) := Lib.hid fun W hW => by
        subst hW
        rw [hPW]
        obtain ⟨⟨e1, e2, e3⟩, e4, e5, e6⟩ := HE.out
        have hB : Below w.heap.size w (((((w.alloc (.cells #[I xa, I xb, I xc] 89)).alloc (.cells #[I ya, I yb, I yc] 89)).alloc (.cells #[I ya, I yb, I yc, I room, ptr (w.heap.size + 1 + 1 + 1)] 102)).alloc (.cells #[I xa, I xb, I xc, I 0, ptr (w.heap.size + 1 + 1)] 102)).alloc (.cells #[ptr (w.heap.size + 1 + 1)] 99)) := by (repeat' (first | assumption | exact Below.refl _ _ | refine Below.drew ?_ | refine below_drewN ?_ _ | refine Below.setCell ?_ (by first | omega | (simp; done) | (simp; omega)) _ | refine Below.alloc ?_ (by first | omega | (simp; done) | (simp; omega)) _ | refine Below.trans ?_ (Below.mono (by assumption) (by first | omega | (simp; done) | (simp; omega)))))
        have b0 := ((((Box.new w [I xa, I xb, I xc] 89).alloc (.cells #[I ya, I yb, I yc] 89)).alloc (.cells #[I ya, I yb, I yc, I room, ptr (w.heap.size + 1 + 1 + 1)] 102)).alloc (.cells #[I xa, I xb, I xc, I 0, ptr (w.heap.size + 1 + 1)] 102)).alloc (.cells #[ptr (w.heap.size + 1 + 1)] 99)
        have b1 := (((Box.new (w.alloc (.cells #[I xa, I xb, I xc] 89)) [I ya, I yb, I yc] 89).alloc (.cells #[I ya, I yb, I yc, I room, ptr (w.heap.size + 1 + 1 + 1)] 102)).alloc (.cells #[I xa, I xb, I xc, I 0, ptr (w.heap.size + 1 + 1)] 102)).alloc (.cells #[ptr (w.heap.size + 1 + 1)] 99)
        have b2 := ((Box.new ((w.alloc (.cells #[I xa, I xb, I xc] 89)).alloc (.cells #[I ya, I yb, I yc] 89)) [I ya, I yb, I yc, I room, ptr (w.heap.size + 1 + 1 + 1)] 102).alloc (.cells #[I xa, I xb, I xc, I 0, ptr (w.heap.size + 1 + 1)] 102)).alloc (.cells #[ptr (w.heap.size + 1 + 1)] 99)
        have b3 := (Box.new (((w.alloc (.cells #[I xa, I xb, I xc] 89)).alloc (.cells #[I ya, I yb, I yc] 89)).alloc (.cells #[I ya, I yb, I yc, I room, ptr (w.heap.size + 1 + 1 + 1)] 102)) [I xa, I xb, I xc, I 0, ptr (w.heap.size + 1 + 1)] 102).alloc (.cells #[ptr (w.heap.size + 1 + 1)] 99)
        have b4 := Box.new ((((w.alloc (.cells #[I xa, I xb, I xc] 89)).alloc (.cells #[I ya, I yb, I yc] 89)).alloc (.cells #[I ya, I yb, I yc, I room, ptr (w.heap.size + 1 + 1 + 1)] 102)).alloc (.cells #[I xa, I xb, I xc, I 0, ptr (w.heap.size + 1 + 1)] 102)) [ptr (w.heap.size + 1 + 1)] 99
        simp only [World.size_alloc] at b1 b2 b3 b4
        refine ⟨⟨HN.out.arc2 (hB.mono ht) (bt := w.heap.size + 1 + 1) (bb := w.heap.size + 1 + 1 + 1) ⟨by omega, by omega, by simp only [World.size_alloc]; omega⟩ (by omega) hx hy (by unfold arcV; rw [e4, e5, e6]; exact b2) (by unfold arcV; rw [e1, e2, e3]; exact b3), hB⟩, b0, b1, b2, b4, by simp only [World.size_alloc]⟩
      have HMP : Hid (∀ W, Below w.heap.size w W → MapAt Tryd.prog 89 W d.b d.nm d.f) := Lib.hid fun W h => HN.out.map.below h (by omega)
      have hkx : IsK Tryd.prog 89 (kn xa xb xc) := by
        have := HK.out.key x hx
        obtain ⟨⟨e1, e2, e3⟩, _⟩ := HE.out
        rwa [Kt.v, e1, e2, e3] at this
      obtain ⟨i0, hi0, hi1, hi2, hi3⟩ := info_parts info99
      have HLIT : Hid (∀ (W w1 : World), Box W (w.heap.size + 1 + 1 + 1 + 1) [ptr (w.heap.size + 1 + 1)] → W.grownBy w1 (some d.b) → ∀ j u, [ptr (w.heap.size + 1 + 1)][j]? = some u → w1.cell? ((⟨w.heap.size + 1 + 1 + 1 + 1, 0, none⟩ : Addr).add j) = some u) := Lib.hid fun W w1 h hg j u hu => by
        have h1 := h.grown hg (fun e => by have := Option.some.inj e; omega)
        obtain rfl : j = 0 := by have := (List.getElem?_eq_some_iff.1 hu).1; simpa using this
        rw [addr_plain]
        exact (h1.at_ 0 u hu).1
      obtain ⟨r0, hr0⟩ : ∃ r, d.rv x = r := ⟨_, rfl⟩
      have hg0 : (d.f (kn xa xb xc)).getD (.slice none 0 0) = r0 := by
        have := HN.out.get x hx
        obtain ⟨⟨e1, e2, e3⟩, _⟩ := HE.out
        rwa [Kt.v, e1, e2, e3, hr0] at this
      obtain ⟨xs0, hxs0⟩ : ∃ xs0, ((outs x).map fun p => ptr (if p.1 = m then (if p.2 then w.heap.size + 1 + 1 else w.heap.size + 1 + 1 + 1) else d.blk p)) = xs0 := ⟨_, rfl⟩
      have HROW : Hid (∀ (W w1 : World), NetAt base W.heap.size N (m + 1) k (fun p => if p.1 = m then (if p.2 then y else x) else to_ p) outs (fun p => if p.1 = m then (if p.2 then room else 0) else left p) { d with blk := fun p => if p.1 = m then (if p.2 then w.heap.size + 1 + 1 else w.heap.size + 1 + 1 + 1) else d.blk p } W → W.grownBy w1 (some d.b) → w1.ownsRow base 99 1 r0 (outs x).length xs0) := Lib.hid fun W w1 h hg => by
        have h1 := h.row x hx
        dsimp only at h1
        rw [hr0, hxs0] at h1
        exact own_at h1 fun g e => by
          obtain ⟨_, cur, hc⟩ := own_block h1 e
          exact hg.block g (Array.getElem?_eq_some_iff.1 hc).1 fun e2 => by cases e2; exact h.map.not_cells hc rfl
      have HNE : Hid (∀ (W : World) (_ : Nat), NetAt base W.heap.size N (m + 1) k (fun p => if p.1 = m then (if p.2 then y else x) else to_ p) outs (fun p => if p.1 = m then (if p.2 then room else 0) else left p) { d with blk := fun p => if p.1 = m then (if p.2 then w.heap.size + 1 + 1 else w.heap.size + 1 + 1 + 1) else d.blk p } W → some d.b ≠ r0.ownBlock) := Lib.hid fun W _ h e => by
        have h1 := h.row x hx
        dsimp only at h1
        rw [hr0] at h1
        obtain ⟨_, cur, hc⟩ := own_block h1 e.symm
        exact h.map.not_cells hc rfl
      have hnb : d.b < w.heap.size := by omega
      go_wp2_with (first
        | (refine wpList_entry_at _ rfl _ _ _ rfl 100 lawK Tryd.underlying77 zero100 d.b d.nm d.f rfl (HMP.out _ (by (repeat' (first | assumption | exact Below.refl _ _ | refine Below.drew ?_ | refine below_drewN ?_ _ | refine Below.setCell ?_ (by first | omega | (simp; done) | (simp; omega)) _ | refine Below.alloc ?_ (by first | omega | (simp; done) | (simp; omega)) _ | refine Below.trans ?_ (Below.mono (by assumption) (by first | omega | (simp; done) | (simp; omega))))))) (kn xa xb xc) rfl hkx r0 hg0 PW (HP.out _ rfl) ?_; rintro W5 w1 st hp5 he1 hg1 hz1; rw [hPW] at hp5; obtain ⟨⟨hN5, hB5⟩, x0, x1, x2, x4, z5⟩ := hp5; have hrow := HROW.out _ _ hN5 hg1; have hlit := HLIT.out _ _ x4 hg1)
        | (at_builtin; refine wpList_append_lies _ rfl _ _ _ rfl base 99 i0 (.pointer none) 1 8 Tryd.underlying100 hi0 hi1 hi2 hi3 rfl (by decide) r0 (outs x).length xs0 rfl hrow ⟨w.heap.size + 1 + 1 + 1 + 1, 0, none⟩ 1 1 [ptr (w.heap.size + 1 + 1)] rfl rfl hlit (by simp [Value.oneCell']) (by decide) (by have := HL.out x hx; unfold maxLen; omega) (by have := HL.out x hx; omega) (by omega) w1.heap.size rfl ?_; intro g cap w2 hown2 hg2 hv2 hlt2; have he2 := he1.grown hg2 (HNE.out _ 0 hN5))
        | (refine wpList_put_at _ rfl _ _ _ _ rfl d.b (d.nm + 1) st _ (kn xa xb xc) rfl he2 rfl (.slice (some ⟨g, 0, none⟩) ((outs x).length + 1) cap) rfl ?_; intro w3 hm3 hg3 hz3)
        | fail)
      have HNX : Hid (∃ d3 : Nt, d3.b = d.b ∧ d3.nm = d.nm + 1 ∧ NetAt base w3.heap.size N (m + 1) k (addTo to_ m x y) (fun z => if z = x then outs x ++ [(m, true)] else outs z) (addLeft left m room) d3 w3 ∧ d3.blk (m, false) = w.heap.size + 1 + 1 + 1 ∧ Below base w w3 ∧ (∀ j, (d3.rv y).ownBlock = some j → j < top ∨ w.heap.size + 5 ≤ j) ∧ Box w3 (w.heap.size + 1) [I ya, I yb, I yc] ∧ Box w3 (w.heap.size + 1 + 1) [I ya, I yb, I yc, I room, ptr (w.heap.size + 1 + 1 + 1)]) := Lib.hid (by
        obtain ⟨⟨e1, e2, e3⟩, e4, e5, e6⟩ := HE.out
        have hkv : k.v x = kn xa xb xc := by rw [Kt.v, e1, e2, e3]
        have hb0 : base ≤ w.heap.size := by omega
        obtain ⟨d3, q1, q2, q3, q4, q5, q7, q6⟩ := net_grown hN5 HK.out hx (p := (m, true)) (by simp) hg1 (by dsimp only; rw [hr0]; exact hg2) (by dsimp only; rw [hxs0]; simpa using hown2) (by dsimp only; rw [hr0]; exact hv2) hlt2 (by dsimp only; rw [hr0, hkv]; exact hm3) hg3
        have hz5 := hB5.size
        refine ⟨d3, q1, q2, q3, by rw [q4]; simp, (hB5.mono hb0).trans q5, fun j hj => (q7 y hy j hj).imp (fun e => HN.out.rtop y hy j e) (fun e => by omega), x1.block (q6 _ (by omega) (.inl ⟨by dsimp only; omega, fun e => by have := HN.out.rtop x hx _ e; omega⟩)), x2.block (q6 _ (by omega) (.inr ⟨(m, true), by simp, by simp⟩))⟩)
      clear HNE HROW hlit hrow hown2 hg2 hm3 hg3 he1 he2 hg1 hN5 x0 x1 x2 x4
      obtain ⟨d3, f1, f2, hN3, f4, hB3, f6, x1, x2⟩ := HNX.out
      clear HNX hz3 hz1
      obtain ⟨n1, hn1⟩ : ∃ n1, (if y = x then outs x ++ [(m, true)] else outs y).length = n1 := ⟨_, rfl⟩
      obtain ⟨xs1, hxs1⟩ : ∃ xs1, (if y = x then outs x ++ [(m, true)] else outs y).map (fun p => ptr (d3.blk p)) = xs1 := ⟨_, rfl⟩
      obtain ⟨r1, hr1⟩ : ∃ r1, d3.rv y = r1 := ⟨_, rfl⟩
      have hkv : k.v y = kn ya yb yc := by
        obtain ⟨_, e4, e5, e6⟩ := HE.out
        rw [Kt.v, e4, e5, e6]
      have hky : IsK Tryd.prog 89 (kn ya yb yc) := by rw [← hkv]; exact HK.out.key y hy
      have hgy : (d3.f (kn ya yb yc)).getD (.slice none 0 0) = r1 := by rw [← hkv, ← hr1]; exact hN3.get y hy
      have hn1b : n1 ≤ 10001 := by
        have h1 := HL.out x hx
        have h2 := HL.out y hy
        rw [← hn1]
        split
        · rw [List.length_append]; simp; omega
        · omega
      have hrow3 := hN3.row y hy
      rw [hr1, hn1, hxs1] at hrow3
      rw [hr1] at f6
      have hz3w := hB3.size
      have hdb : d3.b < w.heap.size := by omega
      have HROW1 : Hid (∀ W, w3.grownBy W (some d3.b) → W.ownsRow base 99 1 r1 n1 xs1) := Lib.hid fun W hg => own_at hrow3 fun g e => by
        obtain ⟨_, cur, hc⟩ := own_block hrow3 e
        exact hg.block g (Array.getElem?_eq_some_iff.1 hc).1 fun e2 => by cases e2; exact hN3.map.not_cells hc rfl
      have HNE1 : Hid (some d3.b ≠ r1.ownBlock) := Lib.hid fun e => by
        obtain ⟨_, cur, hc⟩ := own_block hrow3 e.symm
        exact hN3.map.not_cells hc rfl
      have HMP1 : Hid (MapAt Tryd.prog 89 w3 d3.b d3.nm d3.f) := Lib.hid hN3.map
      have HRB : Hid (∀ j, r1.ownBlock = some j → base ≤ j) := Lib.hid fun j hj => (own_block hrow3 hj).1
      have HCB : Hid (∀ W W' row, (Box W (w.heap.size + 1) [I ya, I yb, I yc] ∧ Box W (w.heap.size + 1 + 1) [I ya, I yb, I yc, I room, ptr (w.heap.size + 1 + 1 + 1)]) → W.grownBy W' row → (row = none ∨ row = some d3.b ∨ row = r1.ownBlock) → Box W' (w.heap.size + 1) [I ya, I yb, I yc] ∧ Box W' (w.heap.size + 1 + 1) [I ya, I yb, I yc, I room, ptr (w.heap.size + 1 + 1 + 1)]) := Lib.hid fun W W' row h hg hr => by
        have hj : ∀ j, row = some j → j ≠ w.heap.size + 1 ∧ j ≠ w.heap.size + 1 + 1 := fun j e => by
          rcases hr with e2 | e2 | e2 <;> rw [e] at e2
          · cases e2
          · have := Option.some.inj e2; omega
          · have := f6 j e2.symm; omega
        exact ⟨h.1.grown hg fun e => (hj _ e).1 rfl, h.2.grown hg fun e => (hj _ e).2 rfl⟩
      have HFIN : Hid (∀ (W6 w2' w3' : World) (g cap : Nat), w3.grownBy W6 (some d3.b) → W6.grownBy w2' r1.ownBlock → w2'.ownsRow base 99 1 (.slice (some ⟨g, 0, none⟩) (n1 + 1) cap) (n1 + 1) (xs1 ++ [ptr (w.heap.size + 1 + 1 + 1)]) → (r1.ownBlock = some g ∨ g = W6.heap.size) → g < w2'.heap.size → MapAt Tryd.prog 89 w3' d3.b (d3.nm + 1) (putF (putF d3.f (kn ya yb yc) r1) (kn ya yb yc) (.slice (some ⟨g, 0, none⟩) (n1 + 1) cap)) → w2'.grownBy w3' (some d3.b) →
          (Below base w w3' ∧ ∃ d', d'.b = d.b ∧ d'.nm ≤ d.nm + 2 ∧ NetAt base w3'.heap.size N (m + 1) k (addTo to_ m x y) (addOuts outs m x y) (addLeft left m room) d' w3')) := Lib.hid fun W6 w2' w3' g cap g1 g2 own hv hlt m3 g3 => by
        obtain ⟨d4, q1, q2, q3, q4, q5, _⟩ := net_grown hN3 HK.out hy (p := (m, false)) (by simp) g1 (by rw [hr1]; exact g2) (by rw [hn1, hxs1, f4]; exact own) (by rw [hr1]; exact hv) hlt (by rw [hr1, hn1, hkv]; exact m3) g3
        exact ⟨hB3.trans q5, d4, by rw [q1, f1], by omega, q3⟩
      clear hrow3 hN3 f6 HN HP HMP HLIT hxs0 hr0 hg0 hkx hn1 hxs1 hr1 hkv HL HE f4
      have HCC : Hid (∀ W, (Box W (w.heap.size + 1) [I ya, I yb, I yc] ∧ Box W (w.heap.size + 1 + 1) [I ya, I yb, I yc, I room, ptr (w.heap.size + 1 + 1 + 1)]) → (W.cell? ⟨w.heap.size + 1, 0, none⟩ = some (I ya) ∧ W.cell? ⟨w.heap.size + 1, 1, none⟩ = some (I yb) ∧ W.cell? ⟨w.heap.size + 1, 2, none⟩ = some (I yc)) ∧ W.cell? ⟨w.heap.size + 1 + 1, 4, none⟩ = some (ptr (w.heap.size + 1 + 1 + 1))) := Lib.hid fun W h =>
        ⟨⟨(h.1.at_ 0 _ rfl).1, (h.1.at_ 1 _ rfl).1, (h.1.at_ 2 _ rfl).1⟩, (h.2.at_ 4 _ rfl).1⟩
      clear c0 c1 c2 a0 a1 a2
      go_wp2_with (fail)
      refine (wpIn_wide (n := 9)).1 ?_
      refine wpIn_region_plan (Plan.ons [0, 1, 2, 3, 4, 5, 6, 7, 8, 10, 9, 11] .fin) [0, 1, 2, 3, 4, 5, 8, 10] (fun W => (Box W (w.heap.size + 1) [I ya, I yb, I yc] ∧ Box W (w.heap.size + 1 + 1) [I ya, I yb, I yc, I room, ptr (w.heap.size + 1 + 1 + 1)])) [11] rfl (by kernel_rfl) (by kernel_rfl) (fun _ d _ _ _ h => by cases d <;> exact h) ⟨x1.drew, x2.drew⟩ ?_
      (refine ordQ_held (.map (some d.b)) rfl rfl rfl rfl (fun W' hC' => ?_) (fun K hK => ?_); (focus (obtain ⟨⟨c0, c1, c2⟩, c4⟩ := HCC.out _ hC'; go_simp; try exact ⟨rfl, rfl⟩)); go_simp; refine hK _ ?_; clear hK K)
      (refine ordQ_held (.agg #[I ya, I yb, I yc]) rfl rfl rfl rfl (fun W' hC' => ?_) (fun K hK => ?_); (focus (obtain ⟨⟨c0, c1, c2⟩, c4⟩ := HCC.out _ hC'; go_simp; try exact ⟨rfl, rfl⟩)); go_simp; refine hK _ ?_; clear hK K)
      (refine ordQ_held (ptr (w.heap.size + 1 + 1)) rfl rfl rfl rfl (fun W' hC' => ?_) (fun K hK => ?_); (focus (obtain ⟨⟨c0, c1, c2⟩, c4⟩ := HCC.out _ hC'; go_simp; try exact ⟨rfl, rfl⟩)); go_simp; refine hK _ ?_; clear hK K)
      (refine ordQ_held (ptr (w.heap.size + 1 + 1)) rfl rfl rfl rfl (fun W' hC' => ?_) (fun K hK => ?_); (focus (obtain ⟨⟨c0, c1, c2⟩, c4⟩ := HCC.out _ hC'; go_simp; try exact ⟨rfl, rfl⟩)); go_simp; refine hK _ ?_; clear hK K)
      (refine ordQ_held (.pointer (some ⟨w.heap.size + 1 + 1, 4, none⟩)) rfl rfl rfl rfl (fun W' hC' => ?_) (fun K hK => ?_); (focus (obtain ⟨⟨c0, c1, c2⟩, c4⟩ := HCC.out _ hC'; go_simp; try exact ⟨rfl, rfl⟩)); go_simp; refine hK _ ?_; clear hK K)
      (refine ordQ_held (ptr (w.heap.size + 1 + 1 + 1)) rfl rfl rfl rfl (fun W' hC' => ?_) (fun K hK => ?_); (focus (obtain ⟨⟨c0, c1, c2⟩, c4⟩ := HCC.out _ hC'; go_simp; try exact ⟨rfl, rfl⟩)); go_simp; refine hK _ ?_; clear hK K)
      rw [f1] at HROW1 HNE1 HMP1 HCB HFIN hdb
      have hdr : w3.grownBy w3.drew (some d.b) := ⟨rfl, rfl, rfl, Nat.le_refl _, fun _ _ _ => rfl⟩
      refine ordQ_hv rfl rfl rfl (fun K hK => ?_)
      · gi_wp2
        have hga : w3.grownBy (w3.drew.alloc (.cells #[ptr (w.heap.size + 1 + 1 + 1)] 99)) (some d.b) := grownBy_trans hdr (World.grownBy_alloc _ _ _)
        have hCa : Box (w3.drew.alloc (.cells #[ptr (w.heap.size + 1 + 1 + 1)] 99)) (w.heap.size + 1) [I ya, I yb, I yc] ∧ Box (w3.drew.alloc (.cells #[ptr (w.heap.size + 1 + 1 + 1)] 99)) (w.heap.size + 1 + 1) [I ya, I yb, I yc, I room, ptr (w.heap.size + 1 + 1 + 1)] := ⟨x1.drew.alloc _, x2.drew.alloc _⟩
        refine hK _ _ (fun _ => hCa) ?_
        clear hK K
        refine ordQ_hv rfl rfl rfl (fun K hK => ?_)
        refine opIn_entry_at _ rfl _ _ _ rfl 100 lawK Tryd.underlying77 zero100 d.b d3.nm d3.f rfl (HMP1.out.drew.alloc _) (kn ya yb yc) rfl hky r1 hgy ?_
        intro WW st7 he7 hg7 hz7
        have hC7 := HCB.out _ _ _ hCa hg7 (.inr (.inl rfl))
        refine hK _ _ (fun _ => hC7) ?_
        clear hK K
        have hg37 := grownBy_trans hga hg7
        have hlit7 : ∀ j u, [ptr (w.heap.size + 1 + 1 + 1)][j]? = some u → WW.cell? ((⟨w3.heap.size, 0, none⟩ : Addr).add j) = some u := fun j u hu => by
          have h1 := (Box.new w3.drew [ptr (w.heap.size + 1 + 1 + 1)] 99).grown hg7 (fun e => by have := Option.some.inj e; simp at this; omega)
          obtain rfl : j = 0 := by have := (List.getElem?_eq_some_iff.1 hu).1; simpa using this
          rw [addr_plain]
          exact (h1.at_ 0 u hu).1
        clear hga hCa hg7
        (refine ordQ_held (r1) rfl rfl rfl rfl (fun W' hC' => ?_) (fun K hK => ?_); (focus (obtain ⟨⟨c0, c1, c2⟩, c4⟩ := HCC.out _ hC'; go_simp; try exact ⟨rfl, rfl⟩)); go_simp; refine hK _ ?_; clear hK K)
        (refine ordQ_held (goInt st7) rfl rfl rfl rfl (fun W' hC' => ?_) (fun K hK => ?_); (focus (obtain ⟨⟨c0, c1, c2⟩, c4⟩ := HCC.out _ hC'; go_simp; try exact ⟨rfl, rfl⟩)); go_simp; refine hK _ ?_; clear hK K)
        refine ordQ_hv rfl rfl rfl (fun K hK => ?_)
        refine opIn_append_lies _ rfl _ _ _ rfl base 99 i0 (.pointer none) 1 8 Tryd.underlying100 hi0 hi1 hi2 hi3 rfl (by decide) r1 n1 xs1 rfl (HROW1.out _ hg37) ⟨w3.heap.size, 0, none⟩ 1 1 [ptr (w.heap.size + 1 + 1 + 1)] rfl rfl hlit7 (by simp [Value.oneCell']) (by decide) (by unfold maxLen; omega) (by omega) (by have := hg37.size; omega) WW.heap.size rfl ?_
        intro g2 cap2 w8 hown8 hg8 hv8 hlt8
        refine hK _ _ (fun _ => HCB.out _ _ _ hC7 hg8 (.inr (.inr rfl))) ?_
        clear hK K
        refine ordQ_hv rfl rfl rfl (fun K hK => ?_)
        refine opIn_put_at _ rfl _ _ _ _ rfl d.b (d3.nm + 1) st7 _ (kn ya yb yc) rfl (he7.grown hg8 HNE1.out) rfl (.slice (some ⟨g2, 0, none⟩) (n1 + 1) cap2) rfl ?_
        intro w9 hm9 hg9 hz9
        refine hK _ _ (fun h => by cases h) ?_
        clear hK K
        refine ordQ_fin ?_
        have HF := Lib.hid (HFIN.out _ _ _ _ _ hg37 hg8 hown8 hv8 hlt8 hm9 hg9)
        clear hm9 hg9 hown8 hg8 hv8 he7 hg37 hlit7 hC7 HCC HFIN HCB HMP1 HNE1 HROW1 x1 x2
        go_wp2_with (fail)
        go_roundw
        case rel => first | exact .inr ⟨by go_num, HF⟩ | ((repeat apply Exists.intro); refine ⟨?_, rfl⟩; exact .inr ⟨by go_num, HF⟩)
        case measure => first | (simp [intOf]; done) | (simp [intOf]; omega)
    · go_wp2
      go_end0
      exact ⟨⟨_, rfl⟩, HF.out⟩
end Go.Proofs.YtomfnldlnoiloaaDoor
