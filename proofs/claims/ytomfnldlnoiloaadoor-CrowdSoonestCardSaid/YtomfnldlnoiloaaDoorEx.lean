/- The example's numbers: each view's flow is laid, and looked at. Printed by mkEx.py. -/
import Derived.Test.YtomfnldlnoiloaaDoorV2
import Derived.Test.YtomfnldlnoiloaaDoorS13
namespace Go.Proofs.YtomfnldlnoiloaaDoor
set_option linter.unusedVariables false
set_option linter.unusedSimpArgs false

def smpV : Vis := ⟨[50, 5, 55], [(0, 1, 2, 10), (1, 2, 3, 8), (0, 2, 7, 4)], [(0, 0, 40), (3, 0, 20)]⟩
def smlV : Vis := ⟨[4, 9], [(0, 1, 1, 3)], [(0, 0, 10)]⟩
set_option maxRecDepth 10000 in
theorem smp_ok : VisOk smpV := ⟨by decide, by decide, by decide, by decide, by decide, by decide⟩
set_option maxRecDepth 10000 in
theorem sml_ok : VisOk smlV := ⟨by decide, by decide, by decide, by decide, by decide, by decide⟩
/-- Is it a flow, and does no more go? -/
def flowB (L : List Arc3) (N s t : Nat) (f : Nat → Int) (c : Int) : Bool :=
  (List.range L.length).all (fun i => decide (0 ≤ f i ∧ f i ≤ capL L i)) && (List.range N).all (fun x => x == s || x == t || decide (outAt (frL L) (toL L) f L.length x = 0)) && !decide (t ∈ ordL L s (bfsL L f s N)) && decide (outAt (frL L) (toL L) f L.length s = c)
theorem most_by {v : Vis} (hv : VisOk v) {p m : Nat} (hp : p < v.n) (L : List Arc3) (s t : Nat) (hL : netP v p m = L) (hs : srcN v m = s) (ht : snkN v m = t) (f : Nat → Int) (c : Int) (h : flowB L (t + 1) s t f c = true) : MostIs v p m c (reachL L f s (t + 1)) := by
  subst hL hs ht
  simp only [flowB, Bool.and_eq_true, List.all_eq_true, List.mem_range, Bool.or_eq_true, beq_iff_eq, decide_eq_true_eq, Bool.not_eq_true', decide_eq_false_iff_not] at h
  obtain ⟨⟨⟨h1, h2⟩, h3⟩, h4⟩ := h
  have hN := netP_ok hv (p := p) (m := m) hp
  have := least_of hN (t := snkN v m) (f := f) ⟨List.nodup_range, fun i hi => ⟨List.mem_range.2 (hN.fr hi), List.mem_range.2 (hN.to hi)⟩, List.mem_range.2 hN.src, h1, fun x hx e1 e2 => by
    rcases h2 x (List.mem_range.1 hx) with (h | h) | h
    · exact absurd h e1
    · exact absurd h e2
    · exact h⟩ h3
  rw [h4] at this
  exact (mostP hv).1 this
theorem MostIs.val {v : Vis} {p m : Nat} {a b : Int} {R R' : Nat → Bool} (h : MostIs v p m a R) (h' : MostIs v p m b R') : a = b := (LeastL.uniq h h').1

set_option maxRecDepth 100000 in
theorem smp0_net : netP smpV 2 0 = [(3, 0, 40), (2, 4, 55)] := by decide
set_option maxRecDepth 100000 in
theorem smp0 : MostIs smpV 2 0 0 (reachL [(3, 0, 40), (2, 4, 55)] (fun i => [0, 0].getD i 0) 3 5) :=
  most_by smp_ok (by decide) _ 3 4 smp0_net (by decide) (by decide) _ 0 (by kernel_rfl)

set_option maxRecDepth 100000 in
theorem smp1_net : netP smpV 2 1 = [(0, 3, 50), (1, 4, 5), (2, 5, 55), (6, 0, 40), (5, 7, 55)] := by decide
set_option maxRecDepth 100000 in
theorem smp1 : MostIs smpV 2 1 0 (reachL [(0, 3, 50), (1, 4, 5), (2, 5, 55), (6, 0, 40), (5, 7, 55)] (fun i => [0, 0, 0, 0, 0].getD i 0) 6 8) :=
  most_by smp_ok (by decide) _ 6 7 smp1_net (by decide) (by decide) _ 0 (by kernel_rfl)

set_option maxRecDepth 100000 in
theorem smp2_net : netP smpV 2 2 = [(0, 3, 50), (1, 4, 5), (2, 5, 55), (0, 7, 10), (3, 6, 50), (4, 7, 5), (5, 8, 55), (9, 0, 40), (8, 10, 55)] := by decide
set_option maxRecDepth 100000 in
theorem smp2 : MostIs smpV 2 2 0 (reachL [(0, 3, 50), (1, 4, 5), (2, 5, 55), (0, 7, 10), (3, 6, 50), (4, 7, 5), (5, 8, 55), (9, 0, 40), (8, 10, 55)] (fun i => [0, 0, 0, 0, 0, 0, 0, 0, 0].getD i 0) 9 11) :=
  most_by smp_ok (by decide) _ 9 10 smp2_net (by decide) (by decide) _ 0 (by kernel_rfl)

set_option maxRecDepth 100000 in
theorem smp3_net : netP smpV 2 3 = [(0, 3, 50), (1, 4, 5), (2, 5, 55), (0, 7, 10), (1, 11, 8), (3, 6, 50), (4, 7, 5), (5, 8, 55), (3, 10, 10), (6, 9, 50), (7, 10, 5), (8, 11, 55), (12, 0, 40), (12, 9, 20), (11, 13, 55)] := by decide
set_option maxRecDepth 100000 in
theorem smp3 : MostIs smpV 2 3 0 (reachL [(0, 3, 50), (1, 4, 5), (2, 5, 55), (0, 7, 10), (1, 11, 8), (3, 6, 50), (4, 7, 5), (5, 8, 55), (3, 10, 10), (6, 9, 50), (7, 10, 5), (8, 11, 55), (12, 0, 40), (12, 9, 20), (11, 13, 55)] (fun i => [0, 0, 0, 0, 0, 0, 0, 0, 0, 0, 0, 0, 0, 0, 0].getD i 0) 12 14) :=
  most_by smp_ok (by decide) _ 12 13 smp3_net (by decide) (by decide) _ 0 (by kernel_rfl)

set_option maxRecDepth 100000 in
theorem smp4_net : netP smpV 2 4 = [(0, 3, 50), (1, 4, 5), (2, 5, 55), (0, 7, 10), (1, 11, 8), (3, 6, 50), (4, 7, 5), (5, 8, 55), (3, 10, 10), (4, 14, 8), (6, 9, 50), (7, 10, 5), (8, 11, 55), (6, 13, 10), (9, 12, 50), (10, 13, 5), (11, 14, 55), (15, 0, 40), (15, 9, 20), (14, 16, 55)] := by decide
set_option maxRecDepth 100000 in
theorem smp4 : MostIs smpV 2 4 0 (reachL [(0, 3, 50), (1, 4, 5), (2, 5, 55), (0, 7, 10), (1, 11, 8), (3, 6, 50), (4, 7, 5), (5, 8, 55), (3, 10, 10), (4, 14, 8), (6, 9, 50), (7, 10, 5), (8, 11, 55), (6, 13, 10), (9, 12, 50), (10, 13, 5), (11, 14, 55), (15, 0, 40), (15, 9, 20), (14, 16, 55)] (fun i => [0, 0, 0, 0, 0, 0, 0, 0, 0, 0, 0, 0, 0, 0, 0, 0, 0, 0, 0, 0].getD i 0) 15 17) :=
  most_by smp_ok (by decide) _ 15 16 smp4_net (by decide) (by decide) _ 0 (by kernel_rfl)

set_option maxRecDepth 100000 in
theorem smp5_net : netP smpV 2 5 = [(0, 3, 50), (1, 4, 5), (2, 5, 55), (0, 7, 10), (1, 11, 8), (3, 6, 50), (4, 7, 5), (5, 8, 55), (3, 10, 10), (4, 14, 8), (6, 9, 50), (7, 10, 5), (8, 11, 55), (6, 13, 10), (7, 17, 8), (9, 12, 50), (10, 13, 5), (11, 14, 55), (9, 16, 10), (12, 15, 50), (13, 16, 5), (14, 17, 55), (18, 0, 40), (18, 9, 20), (17, 19, 55)] := by decide
set_option maxRecDepth 100000 in
theorem smp5 : MostIs smpV 2 5 8 (reachL [(0, 3, 50), (1, 4, 5), (2, 5, 55), (0, 7, 10), (1, 11, 8), (3, 6, 50), (4, 7, 5), (5, 8, 55), (3, 10, 10), (4, 14, 8), (6, 9, 50), (7, 10, 5), (8, 11, 55), (6, 13, 10), (7, 17, 8), (9, 12, 50), (10, 13, 5), (11, 14, 55), (9, 16, 10), (12, 15, 50), (13, 16, 5), (14, 17, 55), (18, 0, 40), (18, 9, 20), (17, 19, 55)] (fun i => [0, 0, 0, 8, 0, 0, 0, 0, 0, 0, 0, 0, 0, 0, 8, 0, 0, 0, 0, 0, 0, 0, 8, 0, 8].getD i 0) 18 20) :=
  most_by smp_ok (by decide) _ 18 19 smp5_net (by decide) (by decide) _ 8 (by kernel_rfl)

set_option maxRecDepth 100000 in
theorem smp9_net : netP smpV 2 9 = [(0, 3, 50), (1, 4, 5), (2, 5, 55), (0, 7, 10), (1, 11, 8), (0, 23, 4), (3, 6, 50), (4, 7, 5), (5, 8, 55), (3, 10, 10), (4, 14, 8), (3, 26, 4), (6, 9, 50), (7, 10, 5), (8, 11, 55), (6, 13, 10), (7, 17, 8), (6, 29, 4), (9, 12, 50), (10, 13, 5), (11, 14, 55), (9, 16, 10), (10, 20, 8), (12, 15, 50), (13, 16, 5), (14, 17, 55), (12, 19, 10), (13, 23, 8), (15, 18, 50), (16, 19, 5), (17, 20, 55), (15, 22, 10), (16, 26, 8), (18, 21, 50), (19, 22, 5), (20, 23, 55), (18, 25, 10), (19, 29, 8), (21, 24, 50), (22, 25, 5), (23, 26, 55), (21, 28, 10), (24, 27, 50), (25, 28, 5), (26, 29, 55), (30, 0, 40), (30, 9, 20), (29, 31, 55)] := by decide
set_option maxRecDepth 100000 in
theorem smp9 : MostIs smpV 2 9 52 (reachL [(0, 3, 50), (1, 4, 5), (2, 5, 55), (0, 7, 10), (1, 11, 8), (0, 23, 4), (3, 6, 50), (4, 7, 5), (5, 8, 55), (3, 10, 10), (4, 14, 8), (3, 26, 4), (6, 9, 50), (7, 10, 5), (8, 11, 55), (6, 13, 10), (7, 17, 8), (6, 29, 4), (9, 12, 50), (10, 13, 5), (11, 14, 55), (9, 16, 10), (10, 20, 8), (12, 15, 50), (13, 16, 5), (14, 17, 55), (12, 19, 10), (13, 23, 8), (15, 18, 50), (16, 19, 5), (17, 20, 55), (15, 22, 10), (16, 26, 8), (18, 21, 50), (19, 22, 5), (20, 23, 55), (18, 25, 10), (19, 29, 8), (21, 24, 50), (22, 25, 5), (23, 26, 55), (21, 28, 10), (24, 27, 50), (25, 28, 5), (26, 29, 55), (30, 0, 40), (30, 9, 20), (29, 31, 55)] (fun i => [24, 0, 0, 8, 0, 4, 12, 0, 0, 8, 0, 4, 0, 0, 0, 8, 8, 4, 8, 0, 0, 8, 8, 0, 0, 0, 8, 8, 0, 0, 8, 0, 8, 0, 0, 16, 0, 8, 0, 0, 28, 0, 0, 0, 40, 36, 16, 52].getD i 0) 30 32) :=
  most_by smp_ok (by decide) _ 30 31 smp9_net (by decide) (by decide) _ 52 (by kernel_rfl)

set_option maxRecDepth 100000 in
theorem smp10_net : netP smpV 2 10 = [(0, 3, 50), (1, 4, 5), (2, 5, 55), (0, 7, 10), (1, 11, 8), (0, 23, 4), (3, 6, 50), (4, 7, 5), (5, 8, 55), (3, 10, 10), (4, 14, 8), (3, 26, 4), (6, 9, 50), (7, 10, 5), (8, 11, 55), (6, 13, 10), (7, 17, 8), (6, 29, 4), (9, 12, 50), (10, 13, 5), (11, 14, 55), (9, 16, 10), (10, 20, 8), (9, 32, 4), (12, 15, 50), (13, 16, 5), (14, 17, 55), (12, 19, 10), (13, 23, 8), (15, 18, 50), (16, 19, 5), (17, 20, 55), (15, 22, 10), (16, 26, 8), (18, 21, 50), (19, 22, 5), (20, 23, 55), (18, 25, 10), (19, 29, 8), (21, 24, 50), (22, 25, 5), (23, 26, 55), (21, 28, 10), (22, 32, 8), (24, 27, 50), (25, 28, 5), (26, 29, 55), (24, 31, 10), (27, 30, 50), (28, 31, 5), (29, 32, 55), (33, 0, 40), (33, 9, 20), (32, 34, 55)] := by decide
set_option maxRecDepth 100000 in
theorem smp10 : MostIs smpV 2 10 55 (reachL [(0, 3, 50), (1, 4, 5), (2, 5, 55), (0, 7, 10), (1, 11, 8), (0, 23, 4), (3, 6, 50), (4, 7, 5), (5, 8, 55), (3, 10, 10), (4, 14, 8), (3, 26, 4), (6, 9, 50), (7, 10, 5), (8, 11, 55), (6, 13, 10), (7, 17, 8), (6, 29, 4), (9, 12, 50), (10, 13, 5), (11, 14, 55), (9, 16, 10), (10, 20, 8), (9, 32, 4), (12, 15, 50), (13, 16, 5), (14, 17, 55), (12, 19, 10), (13, 23, 8), (15, 18, 50), (16, 19, 5), (17, 20, 55), (15, 22, 10), (16, 26, 8), (18, 21, 50), (19, 22, 5), (20, 23, 55), (18, 25, 10), (19, 29, 8), (21, 24, 50), (22, 25, 5), (23, 26, 55), (21, 28, 10), (22, 32, 8), (24, 27, 50), (25, 28, 5), (26, 29, 55), (24, 31, 10), (27, 30, 50), (28, 31, 5), (29, 32, 55), (33, 0, 40), (33, 9, 20), (32, 34, 55)] (fun i => [31, 0, 0, 0, 0, 4, 20, 0, 0, 7, 0, 4, 8, 0, 0, 8, 0, 4, 16, 0, 0, 8, 7, 4, 8, 0, 0, 8, 8, 0, 0, 0, 8, 8, 0, 0, 7, 0, 8, 0, 0, 19, 0, 8, 0, 0, 31, 0, 0, 0, 43, 35, 20, 55].getD i 0) 33 35) :=
  most_by smp_ok (by decide) _ 33 34 smp10_net (by decide) (by decide) _ 55 (by kernel_rfl)

set_option maxRecDepth 100000 in
theorem sml2_net : netP smlV 1 2 = [(0, 2, 4), (1, 3, 9), (0, 3, 3), (2, 4, 4), (3, 5, 9), (2, 5, 3), (6, 0, 10), (5, 7, 9)] := by decide
set_option maxRecDepth 100000 in
theorem sml2 : MostIs smlV 1 2 6 (reachL [(0, 2, 4), (1, 3, 9), (0, 3, 3), (2, 4, 4), (3, 5, 9), (2, 5, 3), (6, 0, 10), (5, 7, 9)] (fun i => [3, 0, 3, 0, 3, 3, 6, 6].getD i 0) 6 8) :=
  most_by sml_ok (by decide) _ 6 7 sml2_net (by decide) (by decide) _ 6 (by kernel_rfl)

end Go.Proofs.YtomfnldlnoiloaaDoor
