/- The document's examples, of the laws: the two visits; which visits are too great. -/
import Derived.Test.YtomfnldlnoiloaaDoorEx
namespace Go.Proofs.YtomfnldlnoiloaaDoor
set_option linter.unusedVariables false
set_option linter.unusedSimpArgs false
open Go Go.RowKit Go.Maps

set_option maxRecDepth 100000 in
set_option maxHeartbeats 4000000 in
theorem sample28 (w : World) : Calls Tryd.prog 28 #[] w fun e w' => ∃ A1 A2 A3, e = .returned (visV smpV A1 A2 A3 3 3 2) ∧ VisAt w' w'.heap.size smpV A1 A2 A3 ∧ Below w.heap.size w w' := by
  have HX := Box.new w [.slice none 0 0, .slice none 0 0, .slice none 0 0] 26
  obtain ⟨m0, f0⟩ := HX.at_ 0 _ rfl
  obtain ⟨m1, f1⟩ := HX.at_ 1 _ rfl
  obtain ⟨m2, f2⟩ := HX.at_ 2 _ rfl
  go_enter Tryd.func28, Tryd.ntmps28
  dsimp only [List.toArray] at *
  go_wp2_with (fail)
  obtain ⟨w1, hw1⟩ : ∃ z, w.alloc (.cells [.slice (some ⟨w.heap.size + 1, 0, none⟩) 3 3, .slice (some ⟨w.heap.size + 1 + 1, 0, none⟩) 3 3, .slice (some ⟨w.heap.size + 1 + 1 + 1, 0, none⟩) 2 2].toArray 26) = z := ⟨_, rfl⟩
  obtain ⟨w2, hw2⟩ : ∃ z, w1.alloc (.cells [I 50, I 5, I 55].toArray 3) = z := ⟨_, rfl⟩
  obtain ⟨w3, hw3⟩ : ∃ z, w2.alloc (.cells [I 0, I 1, I 2, I 10, I 1, I 2, I 3, I 8, I 0, I 2, I 7, I 4].toArray 51) = z := ⟨_, rfl⟩
  obtain ⟨w4, hw4⟩ : ∃ z, w3.alloc (.cells [I 0, I 0, I 40, I 3, I 0, I 20].toArray 49) = z := ⟨_, rfl⟩
  have z1 : w1.heap.size = w.heap.size + 1 := by rw [← hw1]; simp
  have z2 : w2.heap.size = w.heap.size + 1 + 1 := by rw [← hw2]; simp [z1]
  have z3 : w3.heap.size = w.heap.size + 1 + 1 + 1 := by rw [← hw3]; simp [z2]
  have hB1 : Below w.heap.size w w1 := by rw [← hw1]; exact below1 w _
  have b2 : Below w1.heap.size w1 w2 := by rw [← hw2]; exact below1 w1 _
  have b3 : Below w2.heap.size w2 w3 := by rw [← hw3]; exact below1 w2 _
  have b4 : Below w3.heap.size w3 w4 := by rw [← hw4]; exact below1 w3 _
  have bX : Box w1 w.heap.size [.slice (some ⟨w.heap.size + 1, 0, none⟩) 3 3, .slice (some ⟨w.heap.size + 1 + 1, 0, none⟩) 3 3, .slice (some ⟨w.heap.size + 1 + 1 + 1, 0, none⟩) 2 2] := by rw [← hw1]; exact Box.new w _ 26
  have bR : Box w2 w1.heap.size [I 50, I 5, I 55] := by rw [← hw2]; exact Box.new w1 [I 50, I 5, I 55] 3
  have bT : Box w3 w2.heap.size [I 0, I 1, I 2, I 10, I 1, I 2, I 3, I 8, I 0, I 2, I 7, I 4] := by rw [← hw3]; exact Box.new w2 [I 0, I 1, I 2, I 10, I 1, I 2, I 3, I 8, I 0, I 2, I 7, I 4] 51
  have bA : Box w4 w3.heap.size [I 0, I 0, I 40, I 3, I 0, I 20] := by rw [← hw4]; exact Box.new w3 [I 0, I 0, I 40, I 3, I 0, I 20] 49
  have bX4 := ((bX.call b2).call b3).call b4
  have bR4 := (bR.call b3).call b4
  have bT4 := bT.call b4
  have hz4 : w4.heap.size = w.heap.size + 1 + 1 + 1 + 1 := by rw [← hw4]; simp [z3]
  rw [z1] at bR4
  rw [z2] at bT4
  rw [z3] at bA
  have hB : Below w.heap.size w w4 := ((hB1.trans (b2.mono (by omega))).trans (b3.mono (by omega))).trans (b4.mono (by omega))
  have hw : w4 = (((w.alloc (.cells [.slice (some ⟨w.heap.size + 1, 0, none⟩) 3 3, .slice (some ⟨w.heap.size + 1 + 1, 0, none⟩) 3 3, .slice (some ⟨w.heap.size + 1 + 1 + 1, 0, none⟩) 2 2].toArray 26)).alloc (.cells [I 50, I 5, I 55].toArray 3)).alloc (.cells [I 0, I 1, I 2, I 10, I 1, I 2, I 3, I 8, I 0, I 2, I 7, I 4].toArray 51)).alloc (.cells [I 0, I 0, I 40, I 3, I 0, I 20].toArray 49) := by rw [hw1, hw2, hw3, hw4]
  dsimp only [List.toArray] at hw
  rw [← hw]
  clear hw hw1 hw2 hw3 hw4 HX m0 m1 m2 f0 f1 f2
  obtain ⟨x0, _⟩ := bX4.at_ 0 _ rfl
  obtain ⟨x1, _⟩ := bX4.at_ 1 _ rfl
  obtain ⟨x2, _⟩ := bX4.at_ 2 _ rfl
  refine bodyPost_ret (v := visV smpV (some ⟨w.heap.size + 1, 0, none⟩) (some ⟨w.heap.size + 1 + 1, 0, none⟩) (some ⟨w.heap.size + 1 + 1 + 1, 0, none⟩) 3 3 2) (by simp [results, Tryd.results28, go_sem, x0, x1, x2, smpV]) rfl ⟨_, _, _, rfl, ⟨fun _ => ⟨_, 0, rfl, by omega, fun k hk => ?_⟩, fun _ => ⟨_, 0, rfl, by omega, fun k hk => ?_⟩, fun _ => ⟨_, 0, rfl, by omega, fun k hk => ?_⟩⟩, hB⟩
  · have hk3 : k < 3 := hk
    rcases (by omega : k = 0 ∨ k = 1 ∨ k = 2) with rfl | rfl | rfl
    · exact (bR4.at_ 0 _ rfl).1
    · exact (bR4.at_ 1 _ rfl).1
    · exact (bR4.at_ 2 _ rfl).1
  · have hk3 : k < 3 := hk
    rcases (by omega : k = 0 ∨ k = 1 ∨ k = 2) with rfl | rfl | rfl
    · exact ⟨(bT4.at_ 0 _ rfl).1, (bT4.at_ 1 _ rfl).1, (bT4.at_ 2 _ rfl).1, (bT4.at_ 3 _ rfl).1⟩
    · exact ⟨(bT4.at_ 4 _ rfl).1, (bT4.at_ 5 _ rfl).1, (bT4.at_ 6 _ rfl).1, (bT4.at_ 7 _ rfl).1⟩
    · exact ⟨(bT4.at_ 8 _ rfl).1, (bT4.at_ 9 _ rfl).1, (bT4.at_ 10 _ rfl).1, (bT4.at_ 11 _ rfl).1⟩
  · have hk3 : k < 2 := hk
    rcases (by omega : k = 0 ∨ k = 1) with rfl | rfl
    · exact ⟨(bA.at_ 0 _ rfl).1, (bA.at_ 1 _ rfl).1, (bA.at_ 2 _ rfl).1⟩
    · exact ⟨(bA.at_ 3 _ rfl).1, (bA.at_ 4 _ rfl).1, (bA.at_ 5 _ rfl).1⟩
set_option maxRecDepth 100000 in
set_option maxHeartbeats 4000000 in
theorem small29 (w : World) : Calls Tryd.prog 29 #[] w fun e w' => ∃ A1 A2 A3, e = .returned (visV smlV A1 A2 A3 2 1 1) ∧ VisAt w' w'.heap.size smlV A1 A2 A3 ∧ Below w.heap.size w w' := by
  have HX := Box.new w [.slice none 0 0, .slice none 0 0, .slice none 0 0] 26
  obtain ⟨m0, f0⟩ := HX.at_ 0 _ rfl
  obtain ⟨m1, f1⟩ := HX.at_ 1 _ rfl
  obtain ⟨m2, f2⟩ := HX.at_ 2 _ rfl
  go_enter Tryd.func29, Tryd.ntmps29
  dsimp only [List.toArray] at *
  go_wp2_with (fail)
  obtain ⟨w1, hw1⟩ : ∃ z, w.alloc (.cells [.slice (some ⟨w.heap.size + 1, 0, none⟩) 2 2, .slice (some ⟨w.heap.size + 1 + 1, 0, none⟩) 1 1, .slice (some ⟨w.heap.size + 1 + 1 + 1, 0, none⟩) 1 1].toArray 26) = z := ⟨_, rfl⟩
  obtain ⟨w2, hw2⟩ : ∃ z, w1.alloc (.cells [I 4, I 9].toArray 3) = z := ⟨_, rfl⟩
  obtain ⟨w3, hw3⟩ : ∃ z, w2.alloc (.cells [I 0, I 1, I 1, I 3].toArray 51) = z := ⟨_, rfl⟩
  obtain ⟨w4, hw4⟩ : ∃ z, w3.alloc (.cells [I 0, I 0, I 10].toArray 49) = z := ⟨_, rfl⟩
  have z1 : w1.heap.size = w.heap.size + 1 := by rw [← hw1]; simp
  have z2 : w2.heap.size = w.heap.size + 1 + 1 := by rw [← hw2]; simp [z1]
  have z3 : w3.heap.size = w.heap.size + 1 + 1 + 1 := by rw [← hw3]; simp [z2]
  have hB1 : Below w.heap.size w w1 := by rw [← hw1]; exact below1 w _
  have b2 : Below w1.heap.size w1 w2 := by rw [← hw2]; exact below1 w1 _
  have b3 : Below w2.heap.size w2 w3 := by rw [← hw3]; exact below1 w2 _
  have b4 : Below w3.heap.size w3 w4 := by rw [← hw4]; exact below1 w3 _
  have bX : Box w1 w.heap.size [.slice (some ⟨w.heap.size + 1, 0, none⟩) 2 2, .slice (some ⟨w.heap.size + 1 + 1, 0, none⟩) 1 1, .slice (some ⟨w.heap.size + 1 + 1 + 1, 0, none⟩) 1 1] := by rw [← hw1]; exact Box.new w _ 26
  have bR : Box w2 w1.heap.size [I 4, I 9] := by rw [← hw2]; exact Box.new w1 [I 4, I 9] 3
  have bT : Box w3 w2.heap.size [I 0, I 1, I 1, I 3] := by rw [← hw3]; exact Box.new w2 [I 0, I 1, I 1, I 3] 51
  have bA : Box w4 w3.heap.size [I 0, I 0, I 10] := by rw [← hw4]; exact Box.new w3 [I 0, I 0, I 10] 49
  have bX4 := ((bX.call b2).call b3).call b4
  have bR4 := (bR.call b3).call b4
  have bT4 := bT.call b4
  have hz4 : w4.heap.size = w.heap.size + 1 + 1 + 1 + 1 := by rw [← hw4]; simp [z3]
  rw [z1] at bR4
  rw [z2] at bT4
  rw [z3] at bA
  have hB : Below w.heap.size w w4 := ((hB1.trans (b2.mono (by omega))).trans (b3.mono (by omega))).trans (b4.mono (by omega))
  have hw : w4 = (((w.alloc (.cells [.slice (some ⟨w.heap.size + 1, 0, none⟩) 2 2, .slice (some ⟨w.heap.size + 1 + 1, 0, none⟩) 1 1, .slice (some ⟨w.heap.size + 1 + 1 + 1, 0, none⟩) 1 1].toArray 26)).alloc (.cells [I 4, I 9].toArray 3)).alloc (.cells [I 0, I 1, I 1, I 3].toArray 51)).alloc (.cells [I 0, I 0, I 10].toArray 49) := by rw [hw1, hw2, hw3, hw4]
  dsimp only [List.toArray] at hw
  rw [← hw]
  clear hw hw1 hw2 hw3 hw4 HX m0 m1 m2 f0 f1 f2
  obtain ⟨x0, _⟩ := bX4.at_ 0 _ rfl
  obtain ⟨x1, _⟩ := bX4.at_ 1 _ rfl
  obtain ⟨x2, _⟩ := bX4.at_ 2 _ rfl
  refine bodyPost_ret (v := visV smlV (some ⟨w.heap.size + 1, 0, none⟩) (some ⟨w.heap.size + 1 + 1, 0, none⟩) (some ⟨w.heap.size + 1 + 1 + 1, 0, none⟩) 2 1 1) (by simp [results, Tryd.results29, go_sem, x0, x1, x2, smlV]) rfl ⟨_, _, _, rfl, ⟨fun _ => ⟨_, 0, rfl, by omega, fun k hk => ?_⟩, fun _ => ⟨_, 0, rfl, by omega, fun k hk => ?_⟩, fun _ => ⟨_, 0, rfl, by omega, fun k hk => ?_⟩⟩, hB⟩
  · have hk3 : k < 2 := hk
    rcases (by omega : k = 0 ∨ k = 1) with rfl | rfl
    · exact (bR4.at_ 0 _ rfl).1
    · exact (bR4.at_ 1 _ rfl).1
  · have hk3 : k < 1 := hk
    obtain rfl : k = 0 := by omega
    exact ⟨(bT4.at_ 0 _ rfl).1, (bT4.at_ 1 _ rfl).1, (bT4.at_ 2 _ rfl).1, (bT4.at_ 3 _ rfl).1⟩
  · have hk3 : k < 1 := hk
    obtain rfl : k = 0 := by omega
    exact ⟨(bA.at_ 0 _ rfl).1, (bA.at_ 1 _ rfl).1, (bA.at_ 2 _ rfl).1⟩
theorem smp_64 : Vis64 smpV := ⟨by decide, by decide, by decide⟩
theorem sml_64 : Vis64 smlV := ⟨by decide, by decide, by decide⟩
end Go.Proofs.YtomfnldlnoiloaaDoor
