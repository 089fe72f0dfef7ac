/- Law 3: the program and the document answer alike. -/
import Derived.Test.YtijgfdncocjncaaF2
namespace Go.Proofs.Ytijgfdncocjncaa
set_option linter.unusedVariables false
set_option linter.unusedSimpArgs false
open Go Go.RowKit

def IsBool (e : Ending) : Prop := ∃ b, e = .returned (.bool b)
set_option maxRecDepth 100000 in
set_option maxHeartbeats 4000000 in
theorem large8 (x : Wat) (A B : Option Addr) (c d : Nat) (n : Int) (w : World) (h64 : Wat64 x) : Calls Try.prog 8 #[x.val A c B d, I n] w fun e w' => IsBool e ∧ Below w.heap.size w w' := by
  have HXc : Hid (Box (w.alloc (.cells #[.slice A x.hb.length c, .slice B x.er.length d, I x.en] 25)) w.heap.size [.slice A x.hb.length c, .slice B x.er.length d, I x.en]) := Lib.hid (Box.new w [.slice A x.hb.length c, .slice B x.er.length d, I x.en] 25)
  have hB := below1 w (.cells #[.slice A x.hb.length c, .slice B x.er.length d, I x.en] 25)
  obtain ⟨m0, _⟩ := HXc.out.at_ 0 _ rfl
  obtain ⟨m1, _⟩ := HXc.out.at_ 1 _ rfl
  have hl1 := h64.hlen
  have hl2 := h64.elen
  rw [show x.val A c B d = .agg #[.slice A x.hb.length c, .slice B x.er.length d, I x.en] from rfl]
  go_enter Try.func8, Try.ntmps8
  go_wp2_with (fail)
  all_goals first
    | (refine bodyPost_ret (v := .bool true) ?_ rfl ⟨⟨_, rfl⟩, hB⟩; simp [results, Try.results8, go_sem]; done)
    | (refine bodyPost_ret (v := .bool (decide (8 < (x.hb.length : Int)) || decide ((x.er.length : Int) ≤ 64) || decide (68 < (x.er.length : Int)))) ?_ rfl ⟨⟨_, rfl⟩, hB⟩; simp [results, Try.results8, go_sem]; done)
    | (refine bodyPost_ret (v := .bool (decide (8 < (x.hb.length : Int)) || decide (68 < (x.er.length : Int)))) ?_ rfl ⟨⟨_, rfl⟩, hB⟩; simp [results, Try.results8, go_sem]; done)
end Go.Proofs.Ytijgfdncocjncaa
