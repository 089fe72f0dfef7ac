/- Links in order, of the program. -/
import Derived.Test.YtijgfdncocjncaaS12
namespace Go.Proofs.Ytijgfdncocjncaa
set_option linter.unusedVariables false
set_option linter.unusedSimpArgs false
open Go Go.RowKit

theorem info27 : (Try.prog.info? 27).map (fun i => (i.zero, i.size, i.bytes)) = some (some (.agg #[I 0, I 0]), 2, 16) := by kernel_rfl
theorem flat2_take {l : List (Int × Int)} {k : Nat} (h : k < l.length) : flat2 (l.take (k + 1)) = flat2 (l.take k) ++ [I l[k].1, I l[k].2] := by
  rw [List.take_succ_eq_append_getElem h, flat2_app]
  simp [flat2]
theorem perm_sorted {l l' : List (Int × Int)} (hp : l'.Perm l) (h1 : l'.Pairwise leR) (h2 : l.Pairwise leR) : l' = l := by
  refine List.Perm.eq_of_pairwise (le := leR) (fun a b _ _ h3 h4 => ?_) h1 h2 hp
  unfold leR at h3 h4
  exact Prod.ext (by omega) (by omega)
set_option maxRecDepth 100000 in
set_option maxHeartbeats 4000000 in
theorem sorted39 (base : Nat) (v : Value) (l : List (Int × Int)) (w : World) (hown : w.ownsRow base 84 2 v l.length (flat2 l)) (hbase : base ≤ w.heap.size) (hlen : l.length ≤ 1000) (hs : l.Pairwise leR) :
    Calls Try.prog 39 #[v] w fun e w' => ∃ A' c', e = .returned (.slice A' l.length c') ∧ Twos w' w'.heap.size A' l ∧ Below base w w' ∧ Frm w.heap.size (fun j => v.ownBlock = some j) w w' := by
  obtain ⟨A, c, rfl, h54⟩ := sort_is base v l w hown hbase hlen
  obtain ⟨i0, hi0, hi1, hi2, hi3⟩ := info_parts info27
  have H54 := Lib.hid h54
  have HS := Lib.hid hs
  obtain ⟨n, hn⟩ : ∃ n, l.length = n := ⟨_, rfl⟩
  have HN := Lib.hid hn
  clear hown h54 hs
  rw [hn] at H54 hlen ⊢
  clear hn
  go_enter Try.func39, Try.ntmps39
  go_wp2_with (first | (go_at_call 54; refine H54.out.mono ?_; rintro e w1 ⟨rfl, l', hperm, hsorted, htw, hB1, hF1⟩) | fail)
  obtain rfl := perm_sorted hperm hsorted HS.out
  have HTW := Lib.hid htw
  clear htw hperm hsorted H54
  have hz1 := hB1.size
  go_loopw [2, 9] (fun s2 s9 wr => ∃ k : Nat, k ≤ n ∧ s9 = I k ∧ Below w1.heap.size w1 wr ∧ Hid (wr.ownsRow w1.heap.size 27 2 s2 k (flat2 (l'.take k)))) (fun _ s _ => n - (intOf s).toNat)
  case atStart => exact ⟨0, by omega, rfl, Below.refl _ _, Lib.hid (World.ownsRow_nil _ _ _ _)⟩
  case round =>
    obtain ⟨k, hk, rfl, hB, HO⟩ := hrel
    have hzr := hB.size
    by_cases hlt : k < n
    · have hkl : k < l'.length := by rw [HN.out]; exact hlt
      obtain ⟨b, off, rfl, hb, hc⟩ := HTW.out (by omega)
      obtain ⟨c0, c1⟩ := hc k hkl
      have d0 := (hB.cell (p := ⟨b, _, none⟩) hb).trans c0
      have d1 := (hB.cell (p := ⟨b, _, none⟩) hb).trans c1
      have HFT := Lib.hid (flat2_take hkl)
      generalize l'[k].1 = v0 at *
      generalize l'[k].2 = v1 at *
      have p0 : (0 : Int) ≤ (k : Int) := by omega
      have p1 : (k : Int) < (n : Int) := by omega
      have HOa := Lib.hid ((HO.out.alloc (.cells #[I v0, I v1] 84)).alloc (.cells #[I v0, I v1] 27))
      have hs2 := (HO.out).lt
      have HCN : Hid (∀ j u, [I v0, I v1][j]? = some u → ((wr.alloc (.cells #[I v0, I v1] 84)).alloc (.cells #[I v0, I v1] 27)).cell? ((⟨wr.heap.size + 1, 0, none⟩ : Addr).add j) = some u) := Lib.hid fun j u h => by
        have := cells_new (wr.alloc (.cells #[I v0, I v1] 84)) [I v0, I v1] 27 j u h
        rwa [World.size_alloc] at this
      clear hc c0 c1
      go_wp2_with (first
        | (at_builtin; refine wpList_append_own _ rfl _ _ 38 rfl w1.heap.size 27 i0 (.agg #[I 0, I 0]) 2 16 Try.underlying38 hi0 hi1 hi2 hi3 rfl (by decide) _ _ _ rfl HOa.out ⟨wr.heap.size + 1, 0, none⟩ 1 1 [I v0, I v1] rfl rfl HCN.out (by simp [Value.oneCell']) (by unfold maxLen; omega) (by omega) (by simp; omega) ?_; intro v' w6 hown6 hg6 _)
        | fail)
      have HB6 : Hid (Below w1.heap.size w1 w6) := Lib.hid (((hB.alloc (by omega) _).alloc (by simp; omega) _).grown hg6 (by simp; omega) (fun g e => (hs2 g e).1))
      have HO6 : Hid (w6.ownsRow w1.heap.size 27 2 v' (k + 1) (flat2 (l'.take (k + 1)))) := Lib.hid (by rw [HFT.out]; exact hown6)
      clear hown6 hg6
      go_wp2_with (fail)
      go_roundw
      case rel => first | exact ⟨k + 1, by omega, by go_num, HB6.out, HO6⟩ | ((repeat apply Exists.intro); refine ⟨?_, rfl⟩; exact ⟨k + 1, by omega, by go_num, HB6.out, HO6⟩)
      case measure => first | (simp [intOf]; done) | (simp [intOf]; omega)
    · obtain rfl : k = n := by omega
      have hown := HO.out
      rw [List.take_of_length_le (by rw [HN.out]; omega)] at hown
      obtain ⟨A', c', hv, hT, _⟩ := twos_own hown HN.out
      subst hv
      have HT := Lib.hid hT
      have HBF : Hid (Below base w wr) := Lib.hid (hB1.trans (hB.mono (by omega)))
      have HFF := Lib.hid (hF1.then_ hB hz1)
      clear hown HO hT
      go_wp2_with (fail)
      refine bodyPost_ret (v := .slice A' k c') (by simp [results, Try.results39, go_sem]) rfl ⟨A', c', rfl, HT.out, HBF.out, HFF.out⟩
end Go.Proofs.Ytijgfdncocjncaa
