/- The document's example, of the program: the watch. -/
import Derived.Test.YtijgfdncocjncaaD9
import Derived.Test.YtijgfdncocjncaaL3
namespace Go.Proofs.Ytijgfdncocjncaa
set_option linter.unusedVariables false
set_option linter.unusedSimpArgs false
open Go Go.RowKit

theorem span26 (lo hi : Int) (w : World) : Calls Try.prog 26 #[I lo, I hi] w fun e w' => e = .returned (.agg #[I lo, I hi]) ∧ Below w.heap.size w w' := by
  go_enter Try.func26, Try.ntmps26
  go_wp2_with (fail)
  refine bodyPost_ret (v := .agg #[I lo, I hi]) (by simp [results, Try.results26, go_sem]) rfl ⟨rfl, by (repeat' (first | assumption | exact Below.refl _ _ | refine Below.drew ?_ | refine below_drewN ?_ _ | refine Below.setCell ?_ (by first | omega | (simp; done) | (simp; omega)) _ | refine Below.alloc ?_ (by first | omega | (simp; done) | (simp; omega)) _ | refine Below.trans ?_ (Below.mono (by assumption) (by first | omega | (simp; done) | (simp; omega)))))⟩
set_option maxRecDepth 100000 in
set_option maxHeartbeats 4000000 in
theorem sample27 (w : World) : Calls Try.prog 27 #[] w fun e w' => ∃ A B, e = .returned (smp.val A 3 B 10) ∧ WatAt w' smp A B ∧ Below w.heap.size w w' := by
  have H26 := Lib.hid span26
  have HX : Hid (Box (w.alloc (.cells #[.slice none 0 0, .slice none 0 0, .int .i64 0] 25)) w.heap.size [.slice none 0 0, .slice none 0 0, .int .i64 0]) := Lib.hid (Box.new w [.slice none 0 0, .slice none 0 0, .int .i64 0] 25)
  have HB : Hid (Below w.heap.size w (w.alloc (.cells #[.slice none 0 0, .slice none 0 0, .int .i64 0] 25))) := Lib.hid (by (repeat' (first | assumption | exact Below.refl _ _ | refine Below.drew ?_ | refine below_drewN ?_ _ | refine Below.setCell ?_ (by first | omega | (simp; done) | (simp; omega)) _ | refine Below.alloc ?_ (by first | omega | (simp; done) | (simp; omega)) _ | refine Below.trans ?_ (Below.mono (by assumption) (by first | omega | (simp; done) | (simp; omega))))))
  go_enter Try.func27, Try.ntmps27
  go_wp2_with (first
    | (go_at_call 26; refine (H26.out _ _ _).mono ?_; rintro e w1 ⟨rfl, hB1⟩; replace HX := Lib.hid (HX.out.call hB1); replace HB := Lib.hid (HB.out.trans (hB1.mono HB.out.size)); clear hB1; obtain ⟨m0, f0⟩ := HX.out.at_ 0 _ rfl; obtain ⟨m1, f1⟩ := HX.out.at_ 1 _ rfl; obtain ⟨m2, f2⟩ := HX.out.at_ 2 _ rfl; have hz1 : w.heap.size < w1.heap.size := HX.out.1; have hz2 : w.heap.size < w1.heap.size + 1 := Nat.lt_succ_of_lt hz1)
    | fail)
  have HX3 : Box (((w1.setCell ⟨w.heap.size, 0, none⟩ (.slice (some ⟨w1.heap.size, 0, none⟩) 3 3)).setCell ⟨w.heap.size, 1, none⟩ (.slice (some ⟨w1.heap.size + 1, 0, none⟩) 10 10)).setCell ⟨w.heap.size, 2, none⟩ (.int .i64 200)) w.heap.size [.slice (some ⟨w1.heap.size, 0, none⟩) 3 3, .slice (some ⟨w1.heap.size + 1, 0, none⟩) 10 10, .int .i64 200] := ((HX.out.set 0 _).set 1 _).set 2 _
  have HB3 : Below w.heap.size w (((w1.setCell ⟨w.heap.size, 0, none⟩ (.slice (some ⟨w1.heap.size, 0, none⟩) 3 3)).setCell ⟨w.heap.size, 1, none⟩ (.slice (some ⟨w1.heap.size + 1, 0, none⟩) 10 10)).setCell ⟨w.heap.size, 2, none⟩ (.int .i64 200)) := ((HB.out.setCell (p := ⟨w.heap.size, 0, none⟩) (Nat.le_refl _) _).setCell (p := ⟨w.heap.size, 1, none⟩) (Nat.le_refl _) _).setCell (p := ⟨w.heap.size, 2, none⟩) (Nat.le_refl _) _
  have hzs : (((w1.setCell ⟨w.heap.size, 0, none⟩ (.slice (some ⟨w1.heap.size, 0, none⟩) 3 3)).setCell ⟨w.heap.size, 1, none⟩ (.slice (some ⟨w1.heap.size + 1, 0, none⟩) 10 10)).setCell ⟨w.heap.size, 2, none⟩ (.int .i64 200)).heap.size = w1.heap.size := by simp
  generalize ((w1.setCell ⟨w.heap.size, 0, none⟩ (.slice (some ⟨w1.heap.size, 0, none⟩) 3 3)).setCell ⟨w.heap.size, 1, none⟩ (.slice (some ⟨w1.heap.size + 1, 0, none⟩) 10 10)).setCell ⟨w.heap.size, 2, none⟩ (.int .i64 200) = W3 at *
  have bH := (Box.new W3 [I 50, I 60, I 5, I 8, I 1, I 0, I 10, I 15, I 100, I 120, I 0, I 3] 54).alloc (.cells #[.int .i64 0, .int .i64 10, .int .i64 1, .int .i64 22, .int .i64 2, .int .i64 40, .int .i64 0, .int .i64 65, .int .i64 1, .int .i64 78, .int .i64 0, .int .i64 120, .int .i64 1, .int .i64 131, .int .i64 2, .int .i64 150, .int .i64 0, .int .i64 173, .int .i64 1, .int .i64 186] 50)
  have bE := Box.new (W3.alloc (.cells #[I 50, I 60, I 5, I 8, I 1, I 0, I 10, I 15, I 100, I 120, I 0, I 3] 54)) [.int .i64 0, .int .i64 10, .int .i64 1, .int .i64 22, .int .i64 2, .int .i64 40, .int .i64 0, .int .i64 65, .int .i64 1, .int .i64 78, .int .i64 0, .int .i64 120, .int .i64 1, .int .i64 131, .int .i64 2, .int .i64 150, .int .i64 0, .int .i64 173, .int .i64 1, .int .i64 186] 50
  rw [World.size_alloc, hzs] at bE
  rw [hzs] at bH
  have bX := (HX3.alloc (.cells #[I 50, I 60, I 5, I 8, I 1, I 0, I 10, I 15, I 100, I 120, I 0, I 3] 54)).alloc (.cells #[.int .i64 0, .int .i64 10, .int .i64 1, .int .i64 22, .int .i64 2, .int .i64 40, .int .i64 0, .int .i64 65, .int .i64 1, .int .i64 78, .int .i64 0, .int .i64 120, .int .i64 1, .int .i64 131, .int .i64 2, .int .i64 150, .int .i64 0, .int .i64 173, .int .i64 1, .int .i64 186] 50)
  have hBF := (HB3.alloc HB3.size (.cells #[I 50, I 60, I 5, I 8, I 1, I 0, I 10, I 15, I 100, I 120, I 0, I 3] 54)).alloc (by simp; exact Nat.le_succ_of_le HB3.size) (.cells #[.int .i64 0, .int .i64 10, .int .i64 1, .int .i64 22, .int .i64 2, .int .i64 40, .int .i64 0, .int .i64 65, .int .i64 1, .int .i64 78, .int .i64 0, .int .i64 120, .int .i64 1, .int .i64 131, .int .i64 2, .int .i64 150, .int .i64 0, .int .i64 173, .int .i64 1, .int .i64 186] 50)
  have hzF : ((W3.alloc (.cells #[I 50, I 60, I 5, I 8, I 1, I 0, I 10, I 15, I 100, I 120, I 0, I 3] 54)).alloc (.cells #[.int .i64 0, .int .i64 10, .int .i64 1, .int .i64 22, .int .i64 2, .int .i64 40, .int .i64 0, .int .i64 65, .int .i64 1, .int .i64 78, .int .i64 0, .int .i64 120, .int .i64 1, .int .i64 131, .int .i64 2, .int .i64 150, .int .i64 0, .int .i64 173, .int .i64 1, .int .i64 186] 50)).heap.size = w1.heap.size + 2 := by simp [hzs]
  dsimp only [List.toArray] at *
  generalize (W3.alloc (.cells #[I 50, I 60, I 5, I 8, I 1, I 0, I 10, I 15, I 100, I 120, I 0, I 3] 54)).alloc (.cells #[.int .i64 0, .int .i64 10, .int .i64 1, .int .i64 22, .int .i64 2, .int .i64 40, .int .i64 0, .int .i64 65, .int .i64 1, .int .i64 78, .int .i64 0, .int .i64 120, .int .i64 1, .int .i64 131, .int .i64 2, .int .i64 150, .int .i64 0, .int .i64 173, .int .i64 1, .int .i64 186] 50) = WF at *
  obtain ⟨x0, _⟩ := bX.at_ 0 _ rfl
  obtain ⟨x1, _⟩ := bX.at_ 1 _ rfl
  obtain ⟨x2, _⟩ := bX.at_ 2 _ rfl
  refine bodyPost_ret (v := smp.val (some ⟨w1.heap.size, 0, none⟩) 3 (some ⟨w1.heap.size + 1, 0, none⟩) 10) (by simp [results, Try.results27, go_sem, x0, x1, x2, Wat.val, smp, smpH]) rfl ⟨_, _, rfl, ⟨fun _ => ⟨_, 0, rfl, by omega, fun k hk => ?_⟩, fun _ => ⟨_, 0, rfl, by omega, fun k hk => ?_⟩⟩, hBF⟩
  · have hk3 : k < 3 := hk
    rcases (by omega : k = 0 ∨ k = 1 ∨ k = 2) with rfl | rfl | rfl
    · exact ⟨(bH.at_ 0 _ rfl).1, (bH.at_ 1 _ rfl).1, (bH.at_ 2 _ rfl).1, (bH.at_ 3 _ rfl).1⟩
    · exact ⟨(bH.at_ 4 _ rfl).1, (bH.at_ 5 _ rfl).1, (bH.at_ 6 _ rfl).1, (bH.at_ 7 _ rfl).1⟩
    · exact ⟨(bH.at_ 8 _ rfl).1, (bH.at_ 9 _ rfl).1, (bH.at_ 10 _ rfl).1, (bH.at_ 11 _ rfl).1⟩
  · have hk3 : k < 10 := hk
    rcases (by omega : k = 0 ∨ k = 1 ∨ k = 2 ∨ k = 3 ∨ k = 4 ∨ k = 5 ∨ k = 6 ∨ k = 7 ∨ k = 8 ∨ k = 9) with rfl | rfl | rfl | rfl | rfl | rfl | rfl | rfl | rfl | rfl
    · exact ⟨(bE.at_ 0 _ rfl).1, (bE.at_ 1 _ rfl).1⟩
    · exact ⟨(bE.at_ 2 _ rfl).1, (bE.at_ 3 _ rfl).1⟩
    · exact ⟨(bE.at_ 4 _ rfl).1, (bE.at_ 5 _ rfl).1⟩
    · exact ⟨(bE.at_ 6 _ rfl).1, (bE.at_ 7 _ rfl).1⟩
    · exact ⟨(bE.at_ 8 _ rfl).1, (bE.at_ 9 _ rfl).1⟩
    · exact ⟨(bE.at_ 10 _ rfl).1, (bE.at_ 11 _ rfl).1⟩
    · exact ⟨(bE.at_ 12 _ rfl).1, (bE.at_ 13 _ rfl).1⟩
    · exact ⟨(bE.at_ 14 _ rfl).1, (bE.at_ 15 _ rfl).1⟩
    · exact ⟨(bE.at_ 16 _ rfl).1, (bE.at_ 17 _ rfl).1⟩
    · exact ⟨(bE.at_ 18 _ rfl).1, (bE.at_ 19 _ rfl).1⟩
end Go.Proofs.Ytijgfdncocjncaa
