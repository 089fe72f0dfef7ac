/- Most and Soonest. -/
import Derived.Test.YtomfnldlnoiloaaDoorS7
import Derived.Test.YtomfnldlnoiloaaDoorS9
namespace Go.Proofs.YtomfnldlnoiloaaDoor
set_option linter.unusedVariables false
set_option linter.unusedSimpArgs false
open Go Go.RowKit Go.Maps

theorem netP_len {v : Vis} (hv : VisOk v) {p m : Nat} (hm : m ≤ 60) : (netP v p m).length ≤ 2000 := by
  have h1 := pA_len hv m v.ar.length
  have := hv.al
  rw [netP_eq, List.length_append, List.length_singleton]
  omega
/-- The network filled: what Most tells. -/
theorem fillNet {v : Vis} (hv : VisOk v) {p m : Nat} (hp : p < v.n) (hm : m ≤ 60) {base b : Nat} {W : World} (hN : NetL base b (snkN v m + 1) (ktv v.n (srcN v m)) (netP v p m) W) (hG : GlobOk W) (hb : 2 ≤ base) :
    Calls Tryd.prog 41 #[.map (some b)] W fun e w' => ∃ (d : Nt) (f : Nat → Int) (val : Int), d.b = b ∧ e = .returned (I val) ∧ FlAt base W.heap.size (snkN v m + 1) (ktv v.n (srcN v m)) (netP v p m) (srcN v m) (snkN v m) d W f val w' ∧ snkN v m ∉ ordL (netP v p m) (srcN v m) (bfsL (netP v p m) f (srcN v m) (snkN v m + 1)) ∧ MostIs v p m val (reachL (netP v p m) f (srcN v m) (snkN v m + 1)) := by
  obtain ⟨d, rfl, hA⟩ := hN
  have hs := srcN_le hv hm
  refine (fill41 base W.heap.size (snkN v m + 1) (ktv v.n (srcN v m)) (netP v p m) (srcN v m) (snkN v m) d W hA (netP_ok hv hp) (ktv_ok (by omega)) (ktv_src _ _) (by omega) (ktv_snk _ _) hG hb (by unfold snkN; omega) (by rw [(most_sink hv hp).1]; exact (hv.room p hp).2) (by have := netP_len hv (p := p) hm; omega) (by unfold snkN; omega)).mono ?_
  rintro e w' ⟨f, val, rfl, h1, h2⟩
  refine ⟨d, f, val, rfl, rfl, h1, h2, (mostP hv).1 ?_⟩
  rw [h1.v]
  exact least_of (netP_ok hv hp) h1.flow h2
/-- What Most answers. -/
def MostAns (v : Vis) (p m val : Int) : Prop := (errN v p m = 0 → ∃ R, MostIs v p.toNat m.toNat val R) ∧ (errN v p m ≠ 0 → val = 0)
theorem err_zero {v : Vis} {p m : Int} (h : errN v p m = 0) : VisOk v ∧ (0 ≤ p ∧ p ≤ (v.n : Int) - 1) ∧ 0 ≤ m ∧ m ≤ 60 := by
  unfold errN at h
  split at h
  · rename_i h1
    split at h
    · rename_i h2
      rw [Bool.and_eq_true, inB_true, inB_true] at h2
      exact ⟨visB_iff.1 h1, h2.1, h2.2⟩
    · cases h
  · cases h
set_option maxRecDepth 100000 in
set_option maxHeartbeats 4000000 in
theorem most16 (v : Vis) (h64 : Vis64 v) (A1 A2 A3 : Option Addr) (q1 q2 q3 : Nat) (p m : Int) (w : World) (hI : VisAt w w.heap.size v A1 A2 A3) (hG : GlobOk w) :
    Calls Tryd.prog 16 #[visV v A1 A2 A3 q1 q2 q3, I p, I m] w fun e w' => ∃ val : Int, e = .returned (.tuple #[I val, I (errN v p m)]) ∧ MostAns v p m val ∧ Below w.heap.size w w' := by
  obtain ⟨w2, hw2⟩ : ∃ w2, (w.alloc (.cells #[.slice A1 v.rm.length q1, .slice A2 v.tr.length q2, .slice A3 v.ar.length q3] 26)).alloc (.cells #[I p, I m] 46) = w2 := ⟨_, rfl⟩
  have hB2 : Below w.heap.size w w2 := by rw [← hw2]; (repeat' (first | assumption | exact Below.refl _ _ | refine Below.drew ?_ | refine below_drewN ?_ _ | refine Below.setCell ?_ (by first | omega | (simp; done) | (simp; omega)) _ | refine Below.alloc ?_ (by first | omega | (simp; done) | (simp; omega)) _ | refine Below.trans ?_ (Below.mono (by assumption) (by first | omega | (simp; done) | (simp; omega)))))
  have b1 : Box w2 w.heap.size [.slice A1 v.rm.length q1, .slice A2 v.tr.length q2, .slice A3 v.ar.length q3] := by rw [← hw2]; exact (Box.new w [.slice A1 v.rm.length q1, .slice A2 v.tr.length q2, .slice A3 v.ar.length q3] 26).alloc _
  have b2 : Box w2 (w.heap.size + 1) [I p, I m] := by
    rw [← hw2]
    have h := Box.new (w.alloc (.cells #[.slice A1 v.rm.length q1, .slice A2 v.tr.length q2, .slice A3 v.ar.length q3] 26)) [I p, I m] 46
    simpa only [World.size_alloc] using h
  have hI2 := (hI.below hB2).more hB2.size
  have H30 := Lib.hid (errorOf30 v h64 A1 A2 A3 q1 q2 q3 p m w2 hI2)
  have HBX : Hid (∀ W, Below w2.heap.size w2 W → (W.cell? ⟨w.heap.size, 0, none⟩ = some (.slice A1 v.rm.length q1) ∧ W.cell? ⟨w.heap.size, 1, none⟩ = some (.slice A2 v.tr.length q2) ∧ W.cell? ⟨w.heap.size, 2, none⟩ = some (.slice A3 v.ar.length q3)) ∧ (W.cell? ⟨w.heap.size + 1, 0, none⟩ = some (I p) ∧ W.cell? ⟨w.heap.size + 1, 1, none⟩ = some (I m)) ∧ Below w.heap.size w W) := Lib.hid fun W h =>
    ⟨⟨((b1.call h).at_ 0 _ rfl).1, ((b1.call h).at_ 1 _ rfl).1, ((b1.call h).at_ 2 _ rfl).1⟩, ⟨((b2.call h).at_ 0 _ rfl).1, ((b2.call h).at_ 1 _ rfl).1⟩, hB2.trans (h.mono hB2.size)⟩
  obtain ⟨⟨x0, x1, x2⟩, ⟨x3, x4⟩, _⟩ := HBX.out w2 (Below.refl _ _)
  have HG2 : Hid (∀ W, Below w.heap.size w W → GlobOk W) := Lib.hid fun W h => hG.below h hG.z
  have HI2 : Hid (∀ W, Below w2.heap.size w2 W → VisAt W W.heap.size v A1 A2 A3) := Lib.hid fun W h => (hI2.below h).more h.size
  clear b1 b2 hB2 hI hG hI2 h64
  by_cases he : errN v p m = 0
  · obtain ⟨hv, hp, hm⟩ := err_zero he
    have HV := Lib.hid hv
    rw [he] at H30
    obtain ⟨pn, rfl⟩ : ∃ n : Nat, p = n := ⟨p.toNat, (Int.toNat_of_nonneg hp.1).symm⟩
    obtain ⟨mn, rfl⟩ : ∃ n : Nat, m = n := ⟨m.toNat, (Int.toNat_of_nonneg hm.1).symm⟩
    have hpn : pn < v.n := by have := hv.n; omega
    have hmn : mn ≤ 60 := by omega
    have H40 : Hid (∀ W, Below w2.heap.size w2 W → Calls Tryd.prog 40 #[visV v A1 A2 A3 q1 q2 q3, sd pn mn] W fun e w' => ∃ b, e = .returned (.map (some b)) ∧ Below W.heap.size W w' ∧ NetL (W.heap.size + 1 + 1) b (snkN v mn + 1) (ktv v.n (srcN v mn)) (netP v pn mn) w') := Lib.hid fun W h => newNet40 v hv pn mn hpn hmn A1 A2 A3 q1 q2 q3 W (HI2.out W h) (HG2.out W (HBX.out W h).2.2)
    have HE := Lib.hid he
    clear hp hm he hv
    go_enter Tryd.func16, Tryd.ntmps16
    go_wp2_with (first
      | (go_at_call 30; refine H30.out.mono ?_; rintro e w3 ⟨rfl, hb3⟩; obtain ⟨⟨y0, y1, y2⟩, ⟨y3, y4⟩, hB3⟩ := HBX.out w3 hb3)
      | (go_at_call 40; refine (H40.out _ hb3).mono ?_; rintro e w4 ⟨b, rfl, hb4, hN4⟩; have hB4 := (HBX.out w4 (below_call hb3 hb4)).2.2; have H41 := Lib.hid (fillNet HV.out hpn hmn hN4 (HG2.out w4 hB4) (by omega)))
      | (go_at_call 41; refine H41.out.mono ?_; rintro e w5 ⟨d, f, val, hd, rfl, hF, _, hM⟩)
      | fail)
    refine bodyPost_ret (v := .tuple #[I val, I 0]) (by simp [results, Tryd.results16, go_sem]) rfl ⟨val, by rw [HE.out], ⟨fun _ => ⟨_, hM⟩, fun h => absurd HE.out h⟩, ?_⟩
    exact hB4.trans (hF.bl.mono (by have := hB3.size; omega))
  · have HE : Hid (MostAns v p m 0) := Lib.hid ⟨fun h => absurd h he, fun _ => rfl⟩
    obtain ⟨e0, he0⟩ : ∃ z, errN v p m = z := ⟨_, rfl⟩
    rw [he0] at H30 he ⊢
    clear he0
    have heb : (e0 == 0) = false := by simpa using he
    go_enter Tryd.func16, Tryd.ntmps16
    go_wp2_with (first
      | (go_at_call 30; refine H30.out.mono ?_; rintro e w3 ⟨rfl, hb3⟩; have hB3 := (HBX.out w3 hb3).2.2)
      | fail)
    refine bodyPost_ret (v := .tuple #[I 0, I e0]) (by simp [results, Tryd.results16, go_sem]) rfl ⟨0, rfl, HE.out, hB3⟩
end Go.Proofs.YtomfnldlnoiloaaDoor
