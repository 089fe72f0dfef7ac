/- The document's Lacking. -/
import Derived.Test.YtijgfdncocjncaaD8
namespace Go.Proofs.Ytijgfdncocjncaa
set_option linter.unusedVariables false
set_option linter.unusedSimpArgs false
open Go Go.RowKit

section
variable {F : Fence} {n : Nat} {P : Program} {ops : Array Oper} {Q : Exit → Act → World → Prop}
theorem ordT_hvg {i : Nat} {rest : List Nat} {a : Act} {w : World} {o : Oper} (ho : ops[i]? = some o) (hh : heavyOp o.op = true) (hw : Region.wanted o (yielded ops a.tmps) = true)
    (h : ∀ K : Act → World → Prop, (∀ a' w', ordT F n P ops Q rest a' w' → K a' w') → o.wpIn F n P a w K Q) : ordT F n P ops Q (i :: rest) a w := by
  have h := h (fun a' w' => True ∧ ordT F n P ops Q rest a' w') (fun _ _ h => ⟨trivial, h⟩)
  unfold ordT ordP
  have hv : heavyAt ops i = true := by unfold heavyAt; rw [ho]; exact hh
  simp only [hv, if_true]
  unfold wpOpIn
  simp only [ho, hw, if_true]
  exact h
theorem ordT_hvn {i : Nat} {rest : List Nat} {a : Act} {w : World} {o : Oper} (ho : ops[i]? = some o) (hh : heavyOp o.op = true) (hw : Region.wanted o (yielded ops a.tmps) = false) (hab : ∀ f, o.about P w a.eval = some f → F.fn f)
    (h : ordT F n P ops Q rest (a.put o.dst undef) w) : ordT F n P ops Q (i :: rest) a w := by
  unfold ordT ordP
  have hv : heavyAt ops i = true := by unfold heavyAt; rw [ho]; exact hh
  simp only [hv, if_true]
  unfold wpOpIn
  simp only [ho, hw, Bool.false_eq_true, if_false]
  exact ⟨hab, trivial, h⟩
end
def lckI (x : Wat) (k : Nat) : List Int := (lckTo x k).map fun i : Nat => (i : Int)
theorem lckI_succ (x : Wat) (i : Nat) : lckI x (i + 1) = lckI x i ++ if lckB x i then [(i : Int)] else [] := by
  unfold lckI lckTo
  rw [List.range_succ, List.filter_append, List.map_append]
  cases h : lckB x i <;> simp [h]
theorem lckI_len (x : Wat) (i : Nat) : (lckI x i).length ≤ i := by
  unfold lckI lckTo
  rw [List.length_map]
  have := List.length_filter_le (lckB x) (List.range i)
  simpa using this
def exA (x : Wat) (q i k : Nat) : Bool := ((srcs x q).take k).any fun f => expB x f q i
theorem exA_succ {x : Wat} {q i k : Nat} (h : k < (srcs x q).length) : exA x q i (k + 1) = (exA x q i k || expB x (srcs x q)[k] q i) := by
  unfold exA
  rw [List.take_succ_eq_append_getElem h, List.any_append]
  simp
theorem lckB_exA {x : Wat} {q i : Nat} (hq : x.sp i = (q : Int)) : lckB x i = (needB x i && !exA x q i (srcs x q).length) := by
  unfold lckB exA
  rw [hq, Int.toNat_natCast, List.take_length]
set_option maxRecDepth 100000 in
set_option maxHeartbeats 8000000 in
theorem lacking13 (x : Wat) (A B : Option Addr) (c d : Nat) (w : World) (h64 : Wat64 x) (hW : WatAt w x A B) :
    Calls Try.prog 13 #[x.val A c B d] w fun e w' => ∃ A' c', e = .returned (.tuple #[.slice A' (lckR x).1.length c', I (lckR x).2]) ∧ Ints w' w'.heap.size A' (lckR x).1 ∧ Below w.heap.size w w' := by
  have H20 : Hid (∀ W, Below w.heap.size w W → Calls Try.prog 20 #[x.val A c B d] W fun e w' => e = .returned (.bool (watB x)) ∧ Below W.heap.size W w') := Lib.hid fun W h => watch20 x A B c d W h64 (hW.below h)
  have HB0 : Hid (Below w.heap.size w (w.alloc (.cells #[.slice A x.hb.length c, .slice B x.er.length d, I x.en] 25))) := Lib.hid (by (repeat' (first | assumption | exact Below.refl _ _ | refine Below.drew ?_ | refine below_drewN ?_ _ | refine Below.setCell ?_ (by first | omega | (simp; done) | (simp; omega)) _ | refine Below.alloc ?_ (by first | omega | (simp; done) | (simp; omega)) _ | refine Below.trans ?_ (Below.mono (by assumption) (by first | omega | (simp; done) | (simp; omega))))))
  have HX0 : Hid (Box (w.alloc (.cells #[.slice A x.hb.length c, .slice B x.er.length d, I x.en] 25)) w.heap.size [.slice A x.hb.length c, .slice B x.er.length d, I x.en]) := Lib.hid (Box.new w [.slice A x.hb.length c, .slice B x.er.length d, I x.en] 25)
  have HZ0 : Hid ((w.alloc (.cells #[.slice A x.hb.length c, .slice B x.er.length d, I x.en] 25)).heap.size = w.heap.size + 1) := Lib.hid (by simp)
  cases hwb : watB x
  · have HR : Hid (lckR x = ([], 1)) := Lib.hid (by unfold lckR; rw [hwb]; rfl)
    rw [hwb] at H20
    unfold Wat.val at H20 ⊢
    go_enter Try.func13, Try.ntmps13
    go_wp2_with (first | (go_at_call 20; refine (H20.out _ HB0.out).mono ?_; rintro e w1 ⟨rfl, hB1⟩) | fail)
    refine bodyPost_ret (v := .tuple #[.slice none 0 0, I 1]) (by simp [results, Try.results13, go_sem]) rfl ⟨none, 0, by rw [HR.out]; rfl, by rw [HR.out]; exact fun h => absurd h (by simp), HB0.out.trans (hB1.mono (by simp))⟩
  · have hx := watB_iff.1 hwb
    have hm64 : x.er.length ≤ 64 := hx.m64
    have hn6 : x.hb.length ≤ 6 := hx.n6
    have HR : Hid (lckR x = (lckI x x.er.length, 0)) := Lib.hid (by unfold lckR lckI; rw [hwb]; rfl)
    have HWA : Hid (∀ W, Below w.heap.size w W → WatAt W x A B) := Lib.hid fun W h => hW.below h
    have HSQ : Hid (∀ i, i < x.er.length → ∃ q : Nat, x.sp i = (q : Int) ∧ q < x.hb.length) := Lib.hid fun i hi => by
      have h := (hx.eru i hi).sp
      have h2 : (x.n : Int) = x.hb.length := rfl
      exact ⟨(x.sp i).toNat, by omega, by omega⟩
    have HER : Hid (∀ k (h : k < x.er.length), x.er[k] = (x.sp k, x.tm k)) := Lib.hid fun k h => er_get x h
    have H35 : Hid (∀ q, q < x.hb.length → ∀ W, Below w.heap.size w W → Calls Try.prog 35 #[x.val A c B d, I q] W fun e w' => ∃ A' c', e = .returned (.slice A' (srcs x q).length c') ∧ Ints w' w'.heap.size A' ((srcs x q).map fun i : Nat => (i : Int)) ∧ Below W.heap.size W w') := Lib.hid fun q hq W h => sources35 x A B c d q W hx (hW.below h) hq
    have H36 : Hid (∀ q i f, q < x.hb.length → i < x.er.length → ∀ W, Below w.heap.size w W → Calls Try.prog 36 #[x.val A c B d, .agg #[I (f : Nat), I (q : Nat)], I (i : Nat)] W fun e w' => e = .returned (.bool (expB x f q i)) ∧ Below W.heap.size W w') := Lib.hid fun q i f hq hi W h => explains36 x A B c d f q i W hx (hW.below h) hi hq
    have H37 : Hid (∀ i, i < x.er.length → ∀ W, Below w.heap.size w W → Calls Try.prog 37 #[x.val A c B d, I i] W fun e w' => e = .returned (.bool (needB x i)) ∧ Below W.heap.size W w') := Lib.hid fun i hi W h => needs37 x A B c d i W hx (hW.below h) hi
    have HLS := Lib.hid fun i => lckI_succ x i
    have HLL := Lib.hid fun i => lckI_len x i
    have HES := Lib.hid fun q i k => @exA_succ x q i k
    have HLB := Lib.hid fun q i => @lckB_exA x q i
    have HSN := Lib.hid fun q => Nat.le_trans (srcs_len x q) (show x.n ≤ 6 from hn6)
    obtain ⟨i0, hi0, hi1, hi2, hi3⟩ := info_parts info3
    rw [hwb] at H20
    clear hx hW h64
    unfold Wat.val at H20 H35 H36 H37 ⊢
    obtain ⟨en, hen2⟩ : ∃ en, x.en = en := ⟨_, rfl⟩
    rw [hen2] at H20 H35 H36 H37 HB0 HX0 HZ0 ⊢
    clear hen2
    go_enter Try.func13, Try.ntmps13
    go_wp2_with (first
      | (go_at_call 20; generalize (w.alloc (.cells #[.slice A x.hb.length c, .slice B x.er.length d, I en] 25)) = wa at *; refine (H20.out _ HB0.out).mono ?_; rintro e w1 ⟨rfl, hB1⟩)
      | fail)
    have hza := HZ0.out
    have hz1 := hB1.size
    have HB1 : Hid (Below w.heap.size w w1) := Lib.hid (HB0.out.trans (hB1.mono (by omega)))
    have HX1 := Lib.hid (HX0.out.call hB1)
    clear hB1 HB0 HX0
    go_loopw [4, 5] (fun s4 s5 wr => ∃ i : Nat, i ≤ x.er.length ∧ s5 = I i ∧ Below w1.heap.size w1 wr ∧ Hid (wr.ownsRow w1.heap.size 3 1 s4 (lckI x i).length ((lckI x i).map I))) (fun _ s _ => x.er.length - (intOf s).toNat)
    case atStart => exact ⟨0, by omega, rfl, Below.refl _ _, Lib.hid (World.ownsRow_nil _ _ _ _)⟩
    case round =>
      obtain ⟨i, hi, rfl, hB, HO⟩ := hrel
      have hzr := hB.size
      have hbw := HB1.out.trans (hB.mono (by omega))
      have hbx := HX1.out.call hB
      obtain ⟨c0, _⟩ := hbx.at_ 0 _ rfl
      obtain ⟨c1, _⟩ := hbx.at_ 1 _ rfl
      obtain ⟨c2, _⟩ := hbx.at_ 2 _ rfl
      by_cases hlt : i < x.er.length
      · obtain ⟨q, hq, hqn⟩ := HSQ.out i hlt
        obtain ⟨eb, eo, rfl, hez, hec⟩ := (HWA.out _ hbw).er (by omega)
        obtain ⟨e0, _⟩ := hec i hlt
        rw [HER.out i hlt] at e0
        dsimp only at e0
        rw [hq] at e0
        have HLBi := Lib.hid (HLB.out q i hq)
        have H35q := Lib.hid (H35.out q hqn)
        have H36q := Lib.hid fun f => H36.out q i f hqn hlt
        have H37i := Lib.hid (H37.out i hlt)
        have HLSi := Lib.hid (HLS.out i)
        have hll := HLL.out i
        have HESq := Lib.hid fun k => HES.out q i k
        have hsn := HSN.out q
        have p0 : (0 : Int) ≤ (i : Int) := by omega
        have p1 : (i : Int) < (x.er.length : Int) := by omega
        clear hec hq
        go_wp2_with (first
          | (go_at_call 35; refine (H35q.out _ hbw).mono ?_; rintro e w3 ⟨S5, c5, rfl, hS5, hB3⟩)
          | fail)
        have hz3 := hB3.size
        have HB3 : Hid (Below w1.heap.size w1 w3) := Lib.hid (hB.trans (hB3.mono hzr))
        have HO3 : Hid (∀ W, Below w3.heap.size w3 W → W.ownsRow w1.heap.size 3 1 u4 (lckI x i).length ((lckI x i).map I)) := Lib.hid fun W h => grown_own (grown_own HO.out hB3) h
        have hs4 := HO.out.lt
        have HS5 := Lib.hid hS5
        have HE0 : Hid (exA x q i 0 = false) := Lib.hid rfl
        obtain ⟨n, hn⟩ : ∃ n, (srcs x q).length = n := ⟨_, rfl⟩
        rw [hn] at HLBi hsn ⊢
        have HN := Lib.hid hn
        clear hS5 hB3 hn HO c0 c1 c2 e0 hbx H35q
        go_loopw [8, 9] (fun s8 s9 wi => ∃ k : Nat, k ≤ n ∧ s9 = I k ∧ s8 = .bool (exA x q i k) ∧ Below w3.heap.size w3 wi) (fun _ s _ => n - (intOf s).toNat)
        case atStart => exact ⟨0, by omega, rfl, by rw [HE0.out], Below.refl _ _⟩
        case round =>
          obtain ⟨k, hk, rfl, rfl, hBk⟩ := hrel
          have hzk := hBk.size
          have hB1k := HB3.out.trans (hBk.mono (by omega))
          have hBkw := HB1.out.trans (hB1k.mono (by omega))
          have hzkw : w.heap.size ≤ wr.heap.size := hBkw.size
          by_cases hlk : k < n
          · have hlk2 : k < (srcs x q).length := by rw [HN.out]; exact hlk
            obtain ⟨sb, so, rfl, hsz, hsc⟩ := HS5.out (by rw [List.length_map, HN.out]; omega)
            have hsk := hsc k (by rw [List.length_map]; exact hlk2)
            rw [List.getElem_map] at hsk
            have HEk := Lib.hid (HESq.out k hlk2)
            have H36k := Lib.hid (H36q.out (srcs x q)[k])
            have r0 : (0 : Int) ≤ (k : Int) := by omega
            have r1 : (k : Int) < (n : Int) := by omega
            generalize (srcs x q)[k] = fk at *
            have HCK : Hid (∀ W, Below wr.heap.size wr W → W.cell? ⟨w.heap.size, 0, none⟩ = some (.slice A x.hb.length c) ∧ W.cell? ⟨w.heap.size, 1, none⟩ = some (.slice (some ⟨eb, eo, none⟩) x.er.length d) ∧ W.cell? ⟨w.heap.size, 2, none⟩ = some (I en) ∧ W.cell? ⟨sb, so + k, none⟩ = some (I fk)) := Lib.hid fun W hW => by
              have hx := HX1.out.call (hB1k.trans (hW.mono hB1k.size))
              exact ⟨(hx.at_ 0 _ rfl).1, (hx.at_ 1 _ rfl).1, (hx.at_ 2 _ rfl).1, ((hBk.trans (hW.mono hzk)).cell (p := ⟨sb, _, none⟩) hsz).trans hsk⟩
            generalize expB x fk q i = r at *
            obtain ⟨fo, hfo⟩ : ∃ fo, exA x q i k = fo := ⟨_, rfl⟩
            rw [hfo] at HEk ⊢
            clear hfo hsc hsk
            cases fo
            · have HEF : Hid (exA x q i (k + 1) = r) := Lib.hid (by rw [HEk.out, Bool.false_or])
              go_wp2_with (fail)
              obtain ⟨x0_, x1_, x2_, s0_⟩ := HCK.out wr (Below.refl _ _)
              refine (wpIn_wide (n := 9)).1 ?_
              refine wpIn_region_text [0, 1, 2, 3, 4, 5, 6, 7, 8, 9, 10, 11, 12] rfl (by kernel_rfl) (by kernel_rfl) (fun _ d _ _ _ h => by cases d <;> exact h) ?_
              iterate 10 (refine ordT_li rfl rfl (fun K hK => ?_); go_simp; refine hK _ ?_; clear hK K)
              refine ordT_hvg rfl rfl (by go_simp) (fun K hK => ?_)
              gi_wp2_with (first | (refine And.intro trivial ?_; gi_at_call 36; refine (callsIn_wide.2 (H36k.out _ hBkw.drew)).mono ?_; rintro e w6 ⟨rfl, hB6⟩) | fail)
              have hCo : Below wr.heap.size wr w6 := (Below.refl _ wr).drew.trans hB6
              iterate 2 (refine ordT_li rfl rfl (fun K hK => ?_); go_simp; refine hK _ ?_; clear hK K)
              refine ordT_nil ?_
              · clear x0_ x1_ x2_ s0_
                go_wp2_with (fail)
                go_roundw
                case rel => first | exact ⟨k + 1, by omega, by go_num, by rw [HEF.out], hBk.trans (hCo.mono hzk)⟩ | ((repeat apply Exists.intro); refine ⟨?_, rfl⟩; exact ⟨k + 1, by omega, by go_num, by rw [HEF.out], hBk.trans (hCo.mono hzk)⟩)
                case measure => first | (simp [intOf]; done) | (simp [intOf]; omega)
            · have HEF : Hid (exA x q i (k + 1) = true) := Lib.hid (by rw [HEk.out, Bool.true_or])
              go_wp2_with (fail)
              refine (wpIn_wide (n := 9)).1 ?_
              refine wpIn_region_text [0, 1, 2, 3, 4, 5, 6, 7, 8, 9, 10, 11, 12] rfl (by kernel_rfl) (by kernel_rfl) (fun _ d _ _ _ h => by cases d <;> exact h) ?_
              iterate 10 (refine ordT_li rfl rfl (fun K hK => ?_); go_simp; refine hK _ ?_; clear hK K)
              refine ordT_hvn rfl rfl (by go_simp) (fun _ _ => trivial) ?_
              iterate 2 (refine ordT_li rfl rfl (fun K hK => ?_); go_simp; refine hK _ ?_; clear hK K)
              refine ordT_nil ?_
              · have hCo : Below wr.heap.size wr wr.drew := (Below.refl _ wr).drew
                go_wp2_with (fail)
                go_roundw
                case rel => first | exact ⟨k + 1, by omega, by go_num, by rw [HEF.out], hBk.trans (hCo.mono hzk)⟩ | ((repeat apply Exists.intro); refine ⟨?_, rfl⟩; exact ⟨k + 1, by omega, by go_num, by rw [HEF.out], hBk.trans (hCo.mono hzk)⟩)
                case measure => first | (simp [intOf]; done) | (simp [intOf]; omega)
          · obtain rfl : k = n := by omega
            have HOk := Lib.hid (HO3.out _ hBk)
            have hx := HX1.out.call hB1k
            obtain ⟨d0, _⟩ := hx.at_ 0 _ rfl
            obtain ⟨d1, _⟩ := hx.at_ 1 _ rfl
            obtain ⟨d2, _⟩ := hx.at_ 2 _ rfl
            have hz1k := hB1k.size
            obtain ⟨nb, hnb⟩ : ∃ nb, needB x i = nb := ⟨_, rfl⟩
            rw [hnb] at HLBi H37i
            obtain ⟨xb, hxb⟩ : ∃ xb, exA x q i k = xb := ⟨_, rfl⟩
            rw [hxb] at HLBi ⊢
            clear hnb hxb hx HO3 HESq HE0 H36q
            by_cases hboth : nb = true ∧ xb = false
            · obtain ⟨rfl, rfl⟩ := hboth
              have HSS : Hid (lckI x (i + 1) = lckI x i ++ [(i : Int)]) := Lib.hid (by rw [HLSi.out, HLBi.out]; rfl)
              have HSF : Hid ((lckI x (i + 1)).map I = (lckI x i).map I ++ [I i]) := Lib.hid (by rw [HSS.out]; simp)
              have HSG : Hid ((lckI x (i + 1)).length = (lckI x i).length + 1) := Lib.hid (by rw [HSS.out]; simp)
              clear HLSi HLBi HSS
              generalize (lckI x i).map I = xs0 at *
              generalize (lckI x i).length = n0 at *
              go_wp2_with (first
                | (go_at_call 37; refine (H37i.out _ hBkw).mono ?_; rintro e w5 ⟨rfl, hB5⟩; have HO5 := Lib.hid ((grown_own HOk.out hB5).alloc (.cells #[I i] 3)); have HB5 : Hid (Below w1.heap.size w1 w5) := Lib.hid (hB1k.trans (hB5.mono hz1k)); have hz5 := HB5.out.size)
                | (at_builtin; refine wpList_append_own _ rfl _ _ 33 rfl w1.heap.size 3 i0 (.int .i64 0) 1 8 Try.underlying33 hi0 hi1 hi2 hi3 rfl (by decide) _ _ _ rfl HO5.out ⟨w5.heap.size, 0, none⟩ 1 1 [I i] rfl rfl (cell_one3 w5 (I i) 3) (by simp [Value.oneCell']) (by unfold maxLen; omega) (by omega) (by simp; omega) ?_; intro v' w6 hown6 hg6 _)
                | fail)
              have HB6 : Hid (Below w1.heap.size w1 w6) := Lib.hid ((HB5.out.alloc hz5 _).grown hg6 (by simp; omega) (fun g e => (hs4 g e).1))
              have HO6 : Hid (w6.ownsRow w1.heap.size 3 1 v' (lckI x (i + 1)).length ((lckI x (i + 1)).map I)) := Lib.hid (by rw [HSF.out, HSG.out]; exact hown6)
              clear hown6 hg6 HO5 HSF HSG
              go_wp2_with (fail)
              go_roundw
              case rel => first | exact ⟨i + 1, by omega, by go_num, HB6.out, HO6⟩ | ((repeat apply Exists.intro); refine ⟨?_, rfl⟩; exact ⟨i + 1, by omega, by go_num, HB6.out, HO6⟩)
              case measure => first | (simp [intOf]; done) | (simp [intOf]; omega)
            · have HLF : Hid (lckB x i = false) := Lib.hid (by rw [HLBi.out]; revert hboth; cases nb <;> cases xb <;> simp)
              have HSS : Hid (lckI x (i + 1) = lckI x i) := Lib.hid (by rw [HLSi.out, HLF.out]; simp)
              have HO6 : Hid (∀ W, Below wr.heap.size wr W → W.ownsRow w1.heap.size 3 1 u4 (lckI x (i + 1)).length ((lckI x (i + 1)).map I)) := Lib.hid fun W h => by rw [HSS.out]; exact grown_own HOk.out h
              clear HLSi HLBi HLF
              cases nb
              · clear hboth
                go_wp2_with (first
                  | (go_at_call 37; refine (H37i.out _ hBkw).mono ?_; rintro e w5 ⟨rfl, hB5⟩)
                  | fail)
                go_roundw
                case rel => first | exact ⟨i + 1, by omega, by go_num, hB1k.trans (hB5.mono hz1k), Lib.hid (HO6.out _ hB5)⟩ | ((repeat apply Exists.intro); refine ⟨?_, rfl⟩; exact ⟨i + 1, by omega, by go_num, hB1k.trans (hB5.mono hz1k), Lib.hid (HO6.out _ hB5)⟩)
                case measure => first | (simp [intOf]; done) | (simp [intOf]; omega)
              · obtain rfl : xb = true := by revert hboth; cases xb <;> simp
                clear hboth
                go_wp2_with (first
                  | (go_at_call 37; refine (H37i.out _ hBkw).mono ?_; rintro e w5 ⟨rfl, hB5⟩)
                  | fail)
                go_roundw
                case rel => first | exact ⟨i + 1, by omega, by go_num, hB1k.trans (hB5.mono hz1k), Lib.hid (HO6.out _ hB5)⟩ | ((repeat apply Exists.intro); refine ⟨?_, rfl⟩; exact ⟨i + 1, by omega, by go_num, hB1k.trans (hB5.mono hz1k), Lib.hid (HO6.out _ hB5)⟩)
                case measure => first | (simp [intOf]; done) | (simp [intOf]; omega)
      · obtain ⟨A', c', hv, hT⟩ := ints_ownN HO.out rfl
        subst hv
        have hie : i = x.er.length := by omega
        have HRF : Hid (lckR x = (lckI x i, 0)) := Lib.hid (by rw [HR.out, hie])
        have HT := Lib.hid hT
        clear HO hT hie
        generalize lckI x i = l at *
        go_wp2_with (fail)
        refine bodyPost_ret (v := .tuple #[.slice A' l.length c', I 0]) (by simp [results, Try.results13, go_sem]) rfl ⟨A', c', by rw [HRF.out], by rw [HRF.out]; exact HT.out, hbw⟩
end Go.Proofs.Ytijgfdncocjncaa
