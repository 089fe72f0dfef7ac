/- Excess. -/
import Derived.Test.YtgdilbilhajgaaaDoorE24
namespace Go.Proofs.YtgdilbilhajgaaaDoor
set_option linter.unusedVariables false
set_option linter.unusedSimpArgs false
open Go Go.RowKit

theorem info89 : (Tryd.prog.info? 89).map (fun i => (i.zero, i.size, i.bytes)) = some (some (.agg #[I 0, .slice none 0 0]), 2, 32) := by kernel_rfl
/-- What Excess answers. -/
def ExcPost (m : List (Int × Int)) (l : List (Int × Int × Int)) (w : World) (e : Ending) (w' : World) : Prop :=
  Below w.heap.size w w' ∧ ((¬ InOk m l ∧ e = .returned (.tuple #[I 0, I 1])) ∨ (InOk m l ∧ (¬ ∃ x, Feas m l x) ∧ e = .returned (.tuple #[I 0, I 6])) ∨ (InOk m l ∧ ∃ v, IsExcess m l v ∧ e = .returned (.tuple #[I v, I 0])))
def J47 (w4 w6 : World) (Mb U : Nat) (m : List (Int × Int)) (l : List (Int × Int × Int)) (k : Nat) (W : World) : Prop :=
  Below w4.heap.size w4 W ∧ w6.heap.size ≤ W.heap.size ∧ W.cell? ⟨Mb, 0, none⟩ = some (.slice (some ⟨U, 0, none⟩) m.length m.length) ∧ Much W U m l (m.length - k)
theorem J47.step {w4 w6 W : World} {tb Mb mb sb T U S c k : Nat} {A : Option Addr} {m : List (Int × Int)} {l : List (Int × Int × Int)} (hfe : ∃ x, Feas m l x) (hT : TreeAt w4 T A c m) (hS : SpB w4 S (toldL l m.length))
    (z : tb < w4.heap.size ∧ mb < w4.heap.size ∧ sb < w4.heap.size) (k1 : w4.cell? ⟨tb, 0, none⟩ = some (.pointer (some ⟨T, 0, none⟩))) (k3 : w4.cell? ⟨mb, 0, none⟩ = some (.slice A m.length c)) (k4 : w4.cell? ⟨sb, 0, none⟩ = some (.slice (some ⟨S, 0, none⟩) m.length m.length))
    (zU : w4.heap.size ≤ U ∧ w4.heap.size ≤ Mb ∧ Mb < w6.heap.size ∧ Mb ≠ U) (hk : k < m.length) (h : J47 w4 w6 Mb U m l k W) :
    Calls Tryd.prog 47 (#[I ((m.length : Int) - 1 - (k : Int))] ++ #[.pointer (some ⟨tb, 0, none⟩), .pointer (some ⟨Mb, 0, none⟩), .pointer (some ⟨mb, 0, none⟩), .pointer (some ⟨sb, 0, none⟩)]) W fun e w' => e = .returned (.tuple #[]) ∧ J47 w4 w6 Mb U m l (k + 1) w' := by
  obtain ⟨h1, h2, h3, h4⟩ := h
  have e : ((m.length : Int) - 1 - (k : Int)) = ((m.length - 1 - k : Nat) : Int) := by omega
  rw [e]
  have hi : m.length - 1 - k < m.length := by omega
  rw [show m.length - k = (m.length - 1 - k) + 1 by omega] at h4
  have key : ∀ w', Much w' U m l (m.length - 1 - k) → Frm W.heap.size (· = U) W w' → J47 w4 w6 Mb U m l (k + 1) w' := fun w' a b =>
    ⟨h1.trans (b.below h1.size (fun j hj e => by have := e; omega)), Nat.le_trans h2 b.size, (b.cell (by omega) (by omega)).trans h3, by rw [show m.length - (k + 1) = m.length - 1 - k by omega]; exact a⟩
  by_cases hkn : kids m (m.length - 1 - k) = []
  · exact (clo47w tb Mb mb sb T U S A c m l _ hi hkn hfe w4 W hT hS h1 z k1 k3 k4 ⟨zU.1, zU.2.1, by omega, zU.2.2.2⟩ h3 h4).mono fun e w' ⟨a1, a2, a3⟩ => ⟨a1, key w' a2 a3⟩
  · exact (clo47n tb Mb mb sb T U S A c m l _ hi hkn hfe w4 W hT hS h1 z k1 k3 k4 ⟨zU.1, zU.2.1, by omega, zU.2.2.2⟩ h3 h4).mono fun e w' ⟨a1, a2, a3⟩ => ⟨a1, key w' a2 a3⟩
theorem down47 {w4 w6 : World} {tb Mb bm sb T U S c mb : Nat} {A : Option Addr} {m : List (Int × Int)} {l : List (Int × Int × Int)} (hfe : ∃ x, Feas m l x) (hT : TreeAt w4 T A c m) (hS : SpB w4 S (toldL l m.length))
    (z : tb < w4.heap.size ∧ bm < w4.heap.size ∧ sb < w4.heap.size) (k1 : w4.cell? ⟨tb, 0, none⟩ = some (.pointer (some ⟨T, 0, none⟩))) (k3 : w4.cell? ⟨bm, 0, none⟩ = some (.slice A m.length c)) (k4 : w4.cell? ⟨sb, 0, none⟩ = some (.slice (some ⟨S, 0, none⟩) m.length m.length))
    (zU : w4.heap.size ≤ U ∧ w4.heap.size ≤ Mb ∧ Mb < w6.heap.size ∧ Mb ≠ U) (hmz : mb < w4.heap.size) (hmc : w4.cell? ⟨mb, 0, none⟩ = some (.slice A m.length c)) (h0 : J47 w4 w6 Mb U m l 0 w6) :
    Calls Tryd.prog 71 #[.func (.func 47) #[] #[.pointer (some ⟨tb, 0, none⟩), .pointer (some ⟨Mb, 0, none⟩), .pointer (some ⟨bm, 0, none⟩), .pointer (some ⟨sb, 0, none⟩)], .pointer (some ⟨mb, 0, none⟩)] w6 fun e w' => e = .returned (.tuple #[]) ∧ J47 w4 w6 Mb U m l m.length w' :=
  down71 47 _ (enters_of Tryd.func47 (by kernel_rfl) rfl) mb c m.length A (J47 w4 w6 Mb U m l) w6 (by have := hT.ok.le; omega) (fun k W' h => ⟨by have := h.1.size; omega, (h.1.cell (p := ⟨_, _, none⟩) hmz).trans hmc⟩) h0 (fun k hk W' h => h.step hfe hT hS z k1 k3 k4 zU hk)
theorem much_new {w1 : World} {U base n : Nat} {xs : List Value} (m : List (Int × Int)) (l : List (Int × Int × Int)) (hn : m.length = n) (hown : w1.ownsRow base 89 2 (.slice (some ⟨U, 0, none⟩) n n) n xs) : Much w1 U m l m.length := by
  rcases hown.2 with ⟨h, _⟩ | ⟨g, cap, cur, h1, _, h3, _, _, h6, _⟩
  · cases h
  · injection h1 with e1 e2 e3
    injection e1 with e1
    injection e1 with e1
    subst e1
    subst e3
    refine ⟨cur.toList, ⟨(Array.getElem?_eq_some_iff.1 h3).1, fun k hk => ⟨?_, by simp [World.frozen?, h3]⟩⟩, by rw [hn]; simpa using h6, fun j hj hk => by omega⟩
    rw [cell_of_row w1 U k cur 89 (0, 0) h3]
    simp at hk ⊢
theorem after_make {w3 w5 : World} {o : Obj} {t1 T base : Nat} {v u : Value} {m : List (Int × Int)} {xs : List Value} (l : List (Int × Int × Int)) (h1 : (w3.alloc o).cell? ⟨t1, 0, none⟩ = some v) (h2 : (w3.alloc o).cell? ⟨T, 2, none⟩ = some u) (z1 : t1 < (w3.alloc o).heap.size) (z2 : T < (w3.alloc o).heap.size)
    (hown : w5.ownsRow base 89 2 (.slice (some ⟨(w3.alloc o).heap.size, 0, none⟩) m.length m.length) m.length xs) (hg : (w3.alloc o).grownBy w5 none) :
    Much w5 (w3.heap.size + 1) m l m.length ∧ Below (w3.alloc o).heap.size (w3.alloc o) w5 ∧ w5.cell? ⟨t1, 0, none⟩ = some v ∧ w5.cell? ⟨T, 2, none⟩ = some u ∧ T < w5.heap.size ∧ t1 < w5.heap.size := by
  have hB : Below (w3.alloc o).heap.size (w3.alloc o) w5 := (Below.refl _ _).grown hg (Nat.le_refl _) (fun k e => by cases e)
  have hz := hB.size
  refine ⟨?_, hB, (hB.cell (p := ⟨t1, 0, none⟩) z1).trans h1, (hB.cell (p := ⟨T, 2, none⟩) z2).trans h2, by omega, by omega⟩
  have := much_new m l rfl hown
  rwa [World.size_alloc] at this
theorem j47_end {w4 w6 W : World} {Mb U : Nat} {m : List (Int × Int)} {l : List (Int × Int × Int)} (hm : MOk m) (h : J47 w4 w6 Mb U m l m.length W) :
    ∃ (f : Int) (Sj o c : Nat) (L : List Int), W.cell? ⟨U, 1, none⟩ = some (.slice (some ⟨Sj, o, none⟩) L.length c) ∧ Sj < W.heap.size ∧ (0 < L.length ∧ L.length ≤ 100000) ∧ Hid (∀ k (h : k < L.length), W.cell? ⟨Sj, o + k, none⟩ = some (I L[k])) ∧ Hid (BestP (Att m l 0) f L) := by
  obtain ⟨_, _, _, vs, h1, h2, h3⟩ := h
  obtain ⟨a, b, e1, e2, f, Sj, o, N, c, L, rfl, rfl, rfl, m2, m3, m4, m5, m6⟩ := h3 0 hm.pos (by omega)
  rw [Nat.zero_mul, Nat.zero_add] at e2
  have := best_bd hm m6 m2
  exact ⟨f, Sj, o, c, L, (h1.at_ 1 _ e2).1, m4.1, ⟨by omega, by omega⟩, Lib.hid m5, Lib.hid m6⟩

set_option maxRecDepth 100000 in
set_option maxHeartbeats 4000000 in
theorem excess15 (A B : Option Addr) (c cb : Nat) (m : List (Int × Int)) (l : List (Int × Int × Int)) (w : World) (hm : Pairs w w.heap.size A m) (hml : m.length ≤ 9223372036854775807) (hl : Threes w w.heap.size B l) (hll : l.length ≤ 9223372036854775807) :
    Calls Tryd.prog 15 #[.slice A m.length c, .slice B l.length cb] w (ExcPost m l w) := by
  have HRD : Hid (∀ W, Below w.heap.size w W → Calls Tryd.prog 32 #[.slice A m.length c, .slice B l.length cb, .func (.func 45) #[] #[]] W (RdPost m l A c true W)) := Lib.hid fun W hB =>
    read32 45 #[] (enters_of Tryd.func45 (by kernel_rfl) rfl) true A B c cb m l W ((hm.below hB).more hB.size) hml ((hl.below hB).more hB.size) hll (always_fn W)
  have HLL := Lib.hid hl
  obtain ⟨i0, hi0, hi1, hi2, hi3⟩ := info_parts info89
  have hu : Tryd.prog.underlying 84 = some (.slice 89) := Tryd.underlying84
  have HU := Lib.hid hu; have HI0 := Lib.hid hi0; have HI1 := Lib.hid hi1; have HI2 := Lib.hid hi2; have HI3 := Lib.hid hi3
  clear hu hi0 hi1 hi2 hi3 hm hl
  go_enter Tryd.func15, Tryd.ntmps15
  go_wp2_with (first
    | (go_at_call 32; refine (HRD.out _ (by (repeat' (first | assumption | exact Below.refl _ _ | refine Below.drew ?_ | refine below_drewN ?_ _ | refine Below.setCell ?_ (by first | omega | (simp; done) | (simp; omega)) _ | refine Below.alloc ?_ (by first | omega | (simp; done) | (simp; omega)) _ | refine Below.trans ?_ (Below.mono (by assumption) (by first | omega | (simp; done) | (simp; omega))))))).mono ?_; rintro e w1 ⟨hB1, ⟨hno, rfl⟩ | ⟨hok, ht, rfl⟩ | ⟨hok, _, hno, rfl⟩ | ⟨hok, _, T, S0, sl, rfl, hTz, hSz, hT, hS, hlen, hsp⟩⟩ <;> (try cases ht) <;> (try have HNO := Lib.hid hno) <;> (try have HOK := Lib.hid hok) <;> (try have HT := Lib.hid hT) <;> (try have HSP := Lib.hid hsp) <;> (try clear hno) <;> (try clear hok) <;> (try clear hT hS hsp))
    | fail)
  · go_ret2
    have hz1 := hB1.size
    simp only [World.size_alloc] at hz1
    exact ⟨by (repeat' (first | assumption | exact Below.refl _ _ | refine Below.drew ?_ | refine below_drewN ?_ _ | refine Below.setCell ?_ (by first | omega | (simp; done) | (simp; omega)) _ | refine Below.alloc ?_ (by first | omega | (simp; done) | (simp; omega)) _ | refine Below.trans ?_ (Below.mono (by assumption) (by first | omega | (simp; done) | (simp; omega))))), .inl ⟨HNO.out, rfl⟩⟩
  · go_ret2
    have hz1 := hB1.size
    simp only [World.size_alloc] at hz1
    exact ⟨by (repeat' (first | assumption | exact Below.refl _ _ | refine Below.drew ?_ | refine below_drewN ?_ _ | refine Below.setCell ?_ (by first | omega | (simp; done) | (simp; omega)) _ | refine Below.alloc ?_ (by first | omega | (simp; done) | (simp; omega)) _ | refine Below.trans ?_ (Below.mono (by assumption) (by first | omega | (simp; done) | (simp; omega))))), .inr (.inl ⟨HOK.out, HNO.out, rfl⟩)⟩
  · have hz1 := hB1.size
    simp only [World.size_alloc] at hz1
    have hBw : Below w.heap.size w w1 := by (repeat' (first | assumption | exact Below.refl _ _ | refine Below.drew ?_ | refine below_drewN ?_ _ | refine Below.setCell ?_ (by first | omega | (simp; done) | (simp; omega)) _ | refine Below.alloc ?_ (by first | omega | (simp; done) | (simp; omega)) _ | refine Below.trans ?_ (Below.mono (by assumption) (by first | omega | (simp; done) | (simp; omega)))))
    have d1 : w1.cell? ⟨w.heap.size, 0, none⟩ = some (.slice A m.length c) := (hB1.cell (p := ⟨w.heap.size, 0, none⟩) (by simp)).trans (by simp [go_sem])
    have hn16 := HT.out.ok.le
    have hnp := HT.out.ok.pos
    have HFE : Hid (∃ x, Feas m l x) := Lib.hid (by
      obtain ⟨x, hx, _⟩ := HSP.out.full 0 (by omega) _ (Int.le_refl _) (HSP.out.le (by omega))
      exact ⟨x, hx⟩)
    obtain ⟨mb, hmz, hmc, t2, _⟩ := HT.out.fns
    have hTw := HT.out.hT
    have HTL : Hid (∀ W, Below w1.heap.size w1 W → Calls Tryd.prog 46 #[.pointer (some ⟨T, 0, none⟩), .slice B l.length cb] W fun e w' => ∃ S, e = .returned (.slice (some ⟨S, 0, none⟩) m.length m.length) ∧ W.heap.size ≤ S ∧ SpB w' S (toldL l m.length) ∧ Below W.heap.size W w') := Lib.hid fun W hB =>
      told46 mulOk T c m.length A B cb l W (by have := hB.size; omega) ((hB.cell (p := ⟨_, _, none⟩) hTw).trans HT.out.c0) ⟨hnp, hn16⟩ ((HLL.out.below (hBw.trans (hB.mono hBw.size))).more (hBw.trans (hB.mono hBw.size)).size) hll HOK.out.2.2
    clear hB1
    go_wp2_with (first
      | (go_at_call 46; refine (HTL.out _ (by (repeat' (first | assumption | exact Below.refl _ _ | refine Below.drew ?_ | refine below_drewN ?_ _ | refine Below.setCell ?_ (by first | omega | (simp; done) | (simp; omega)) _ | refine Below.alloc ?_ (by first | omega | (simp; done) | (simp; omega)) _ | refine Below.trans ?_ (Below.mono (by assumption) (by first | omega | (simp; done) | (simp; omega))))))).mono ?_; rintro e w3 ⟨S, rfl, hS1, hS2, hB3⟩
         have HS2 := Lib.hid hS2
         have hz3 := hB3.size
         simp only [World.size_alloc] at hz3
         have hB13 : Below w1.heap.size w1 w3 := by (repeat' (first | assumption | exact Below.refl _ _ | refine Below.drew ?_ | refine below_drewN ?_ _ | refine Below.setCell ?_ (by first | omega | (simp; done) | (simp; omega)) _ | refine Below.alloc ?_ (by first | omega | (simp; done) | (simp; omega)) _ | refine Below.trans ?_ (Below.mono (by assumption) (by first | omega | (simp; done) | (simp; omega)))))
         have e1 : w3.cell? ⟨w1.heap.size, 0, none⟩ = some (.pointer (some ⟨T, 0, none⟩)) := (hB3.cell (p := ⟨w1.heap.size, 0, none⟩) (by simp)).trans (by simp [go_sem])
         have e2 := (hB13.cell (p := ⟨w.heap.size, 0, none⟩) (by simp; omega)).trans d1
         have e3 := (hB13.cell (p := ⟨T, 2, none⟩) hTw).trans t2
         have HT3 := Lib.hid (HT.out.call hB13)
         have e4 := (hB13.cell (p := ⟨mb, 0, none⟩) hmz).trans hmc
         have hw3 : w.heap.size < w3.heap.size := by omega
         have hT3 : T < w3.heap.size := by omega
         have hm3 : mb < w3.heap.size := by omega
         have h13 : w1.heap.size < w3.heap.size := by omega
         have HB4 : Hid (Below w1.heap.size w1 (w3.alloc (Obj.cells #[Value.slice (some { block := S, off := 0 }) m.length m.length] 63))) := Lib.hid (hB13.alloc hB13.size _)
         have HT4 : Hid (TreeAt (w3.alloc (Obj.cells #[Value.slice (some { block := S, off := 0 }) m.length m.length] 63)) T A c m) := Lib.hid (HT3.out.call (below1 _ _))
         have HS4 : Hid (SpB (w3.alloc (Obj.cells #[Value.slice (some { block := S, off := 0 }) m.length m.length] 63)) S (toldL l m.length)) := Lib.hid (HS2.out.alloc _)
         have HC4 : Hid ((w3.alloc (Obj.cells #[Value.slice (some { block := S, off := 0 }) m.length m.length] 63)).cell? ⟨w1.heap.size, 0, none⟩ = some (.pointer (some ⟨T, 0, none⟩)) ∧ (w3.alloc (Obj.cells #[Value.slice (some { block := S, off := 0 }) m.length m.length] 63)).cell? ⟨w.heap.size, 0, none⟩ = some (.slice A m.length c) ∧ (w3.alloc (Obj.cells #[Value.slice (some { block := S, off := 0 }) m.length m.length] 63)).cell? ⟨w3.heap.size, 0, none⟩ = some (.slice (some ⟨S, 0, none⟩) m.length m.length) ∧ (w3.alloc (Obj.cells #[Value.slice (some { block := S, off := 0 }) m.length m.length] 63)).cell? ⟨T, 2, none⟩ = some (.func (.func 71) #[] #[.pointer (some ⟨mb, 0, none⟩)]) ∧ (w3.alloc (Obj.cells #[Value.slice (some { block := S, off := 0 }) m.length m.length] 63)).cell? ⟨mb, 0, none⟩ = some (.slice A m.length c)) := Lib.hid
           ⟨((below1 w3 _).cell (p := ⟨_, _, none⟩) h13).trans e1, ((below1 w3 _).cell (p := ⟨_, _, none⟩) hw3).trans e2, by simp [go_sem], ((below1 w3 _).cell (p := ⟨_, _, none⟩) hT3).trans e3, ((below1 w3 _).cell (p := ⟨_, _, none⟩) hm3).trans e4⟩
         have HAF : Hid (∀ w5 xs, w5.ownsRow (w3.heap.size + 1) 89 2 (.slice (some ⟨(w3.alloc (Obj.cells #[Value.slice (some { block := S, off := 0 }) m.length m.length] 63)).heap.size, 0, none⟩) m.length m.length) m.length xs → (w3.alloc (Obj.cells #[Value.slice (some { block := S, off := 0 }) m.length m.length] 63)).grownBy w5 none → Much w5 (w3.heap.size + 1) m l m.length ∧ Below (w3.alloc (Obj.cells #[Value.slice (some { block := S, off := 0 }) m.length m.length] 63)).heap.size (w3.alloc (Obj.cells #[Value.slice (some { block := S, off := 0 }) m.length m.length] 63)) w5 ∧ w5.cell? ⟨w1.heap.size, 0, none⟩ = some (.pointer (some ⟨T, 0, none⟩)) ∧ w5.cell? ⟨T, 2, none⟩ = some (.func (.func 71) #[] #[.pointer (some ⟨mb, 0, none⟩)]) ∧ T < w5.heap.size ∧ w1.heap.size < w5.heap.size) := Lib.hid (fun w5 xs ho hg => after_make l HC4.out.1 HC4.out.2.2.2.1 (by simp; omega) (by simp; omega) ho hg)
         clear hB3 hS2 hS1)
      | (at_make; refine wpList_make_full _ rfl _ _ 84 rfl (w3.heap.size + 1) 89 i0 (.agg #[I 0, .slice none 0 0]) 2 HU.out HI0.out HI1.out HI2.out .i64 .i64 m.length m.length m.length rfl rfl rfl rfl (by rw [HI3.out]; omega) (by unfold maxLen; omega) (by simp) ?_; intro w5 hown hg; obtain ⟨hMU, hB45, g1, g2, hT5, h15⟩ := HAF.out _ _ hown hg; have HMU := Lib.hid hMU; have HB45 := Lib.hid hB45; clear hown hg hMU hB45)
      | (go_at_call 71; go_loud (refine (down47 (w4 := (w3.alloc (Obj.cells #[Value.slice (some { block := S, off := 0 }) m.length m.length] 63))) (w6 := w5.alloc (Obj.cells #[Value.slice (some ⟨w3.heap.size + 1, 0, none⟩) m.length m.length] 84)) (T := T) (S := S) (U := w3.heap.size + 1) (l := l) HFE.out HT4.out HS4.out ⟨by first | (simp; done) | (simp; omega), by first | (simp; done) | (simp; omega), by first | (simp; done) | (simp; omega)⟩ HC4.out.1 HC4.out.2.1 HC4.out.2.2.1
           ⟨by first | (simp; done) | (simp; omega), by (have := HB45.out.size; simp only [World.size_alloc] at this ⊢; omega), by first | (simp; done) | (simp; omega), by (obtain ⟨_, hbx, _⟩ := HMU.out; have := hbx.1; omega)⟩ (by first | (simp; done) | (simp; omega)) HC4.out.2.2.2.2 ⟨HB45.out.alloc HB45.out.size _, Nat.le_refl _, by simp [go_sem], by rw [Nat.sub_zero]; exact HMU.out.call (below1 _ _)⟩).mono ?_); rintro e w7 ⟨rfl, hJ⟩; have HJ := Lib.hid hJ; have hz7 := hJ.2.1; have c7 := hJ.2.2.1; obtain ⟨f, Sj, o, cj, L, x1, hSj, hL1, HLC, HLB⟩ := j47_end (HOK.out.1) hJ; have hnz : 0 < m.length := hnp; clear hJ)
      | (go_at_call 50; refine (min50 Sj o cj L _ hSj HLC.out hL1.1 hL1.2).mono ?_; rintro e w8 ⟨v, rfl, hv1, hv2, hB8⟩; have HV1 := Lib.hid hv1; have HV2 := Lib.hid hv2; clear hv1 hv2)
      | fail)
    go_ret2
    have hB14 : Below w.heap.size w (w3.alloc (Obj.cells #[Value.slice (some { block := S, off := 0 }) m.length m.length] 63)) := hBw.trans (HB4.out.mono hBw.size)
    have hB17 : Below w.heap.size w w7 := hB14.trans (HJ.out.1.mono hB14.size)
    exact ⟨below_call hB17 hB8, .inr (.inr ⟨HOK.out, v, best_excess HOK.out.1 HLB.out HV1.out HV2.out, rfl⟩)⟩
end Go.Proofs.YtgdilbilhajgaaaDoor
