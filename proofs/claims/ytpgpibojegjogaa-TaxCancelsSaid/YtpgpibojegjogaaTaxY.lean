/-
  The walk of modest; the plain law of TaxCancels.
-/
import Derived.Test.YtpgpibojegjogaaTaxV
namespace Go.Proofs.Ytpgpibojegjogaa
namespace MonW
set_option linter.unusedSimpArgs false
set_option linter.unusedVariables false
open Go.RowKit

def modP (x : Itm) : Prop := -1099511627776 ≤ x.net ∧ x.net ≤ 1099511627776 ∧ -1099511627776 ≤ x.vat ∧ x.vat ≤ 1099511627776 ∧ -2199023255552 ≤ x.gross ∧ x.gross ≤ 2199023255552 ∧ 0 ≤ x.tax ∧ x.tax ≤ 10000
instance (x : Itm) : Decidable (modP x) := by unfold modP; infer_instance
def modL (cs : List Itm) : Bool := decide (cs.length ≤ 60 ∧ ∀ x ∈ cs, modP x)
theorem modL_yes {cs : List Itm} (h1 : cs.length ≤ 60) (h2 : ∀ x ∈ cs, modP x) : modL cs = true := decide_eq_true ⟨h1, h2⟩
theorem modL_no {cs : List Itm} {k : Nat} (hk : k < cs.length) (h : ¬ modP cs[k]) : modL cs = false := decide_eq_false (fun h' => h (h'.2 _ (List.getElem_mem hk)))
theorem modL_big {cs : List Itm} (h : ¬ cs.length ≤ 60) : modL cs = false := decide_eq_false (fun h' => h h'.1)

set_option maxHeartbeats 2000000 in
theorem modest (v : Value) (cs : List Itm) (w : World) (h : ItmsAt w v cs) : Calls Try.prog 13 #[v] w fun e w' => e = .returned (.bool (modL cs)) ∧ Below w.heap.size w w' := by
  have HI := Lib.hid h
  obtain ⟨A, c, rfl, h1, h2⟩ := SliceAt.form h
  unfold maxLen at h2
  clear h
  by_cases hb : cs.length ≤ 60
  · have hbz : ¬ (60 : Int) < (cs.length : Int) := by omega
    have HL := Lib.hid hb
    go_enter Try.func13, Try.ntmps13
    go_wp2_with fail
    go_loopg [3] cs.length (fun gg s3 wr => ∃ kk : Nat, kk ≤ cs.length ∧ cs.length - kk ≤ gg ∧ s3 = i kk ∧ Hid (Below w.heap.size w wr) ∧ Hid (∀ x ∈ cs.take kk, modP x))
    case atStart => exact ⟨0, Nat.zero_le _, by omega, rfl, Below.refl _ _, fun x hx => by simp at hx⟩
    case round =>
      obtain ⟨kk, hkk, hg, rfl, BW, HA⟩ := hrel
      by_cases hlt : kk < cs.length
      · have hltz : (kk : Int) < (cs.length : Int) := by omega
        obtain ⟨b, off, rfl, _, _, hrow⟩ := ItmsAt.at_ HI.out hlt
        obtain ⟨l1, l2, l3, l4, l5, l6, l7⟩ := hrow wr (Kept.of BW.out)
        clear hrow
        have HTA := Lib.hid (take_all (P := modP) hlt HA.out)
        have HNO := Lib.hid (modL_no (cs := cs) hlt)
        generalize cs[kk] = y at *
        by_cases hp : modP y
        · have HA2 := Lib.hid (HTA.out hp)
          obtain ⟨k0, p0, t0, q0, n0, vt, gr⟩ := y
          unfold modP at hp
          obtain ⟨a1, a2, a3, a4, a5, a6, a7, a8⟩ := hp
          simp only at *
          have b1 : ¬ n0 < -1099511627776 := by omega
          have b2 : ¬ 1099511627776 < n0 := by omega
          have b3 : ¬ vt < -1099511627776 := by omega
          have b4 : ¬ 1099511627776 < vt := by omega
          have b5 : ¬ gr < -2199023255552 := by omega
          have b6 : ¬ 2199023255552 < gr := by omega
          have b7 : ¬ t0 < 0 := by omega
          have b8 : ¬ 10000 < t0 := by omega
          clear a1 a2 a3 a4 a5 a6 a7 a8 HTA HNO
          go_wp2_with fail
          go_roundg (cs.length - (kk + 1))
          case measure => omega
          case rel => exact ⟨kk + 1, by omega, by omega, by go_num, below_alloc BW.out _, HA2⟩
        · have HF := Lib.hid (HNO.out hp)
          have HP := Lib.hid hp
          clear HNO HTA hp
          obtain ⟨k0, p0, t0, q0, n0, vt, gr⟩ := y
          simp only at *
          go_wp2_with fail
          all_goals first
            | (go_ret; exact ⟨retB' HF.out.symm, below_alloc BW.out _⟩)
            | (exfalso; have hp := HP.out; unfold modP at hp; simp only at hp; omega)
      · have hltz : ¬ (kk : Int) < (cs.length : Int) := by omega
        have hke : kk = cs.length := by omega
        subst hke
        rw [List.take_length] at HA
        have HF := Lib.hid (modL_yes HL.out HA.out)
        go_wp2_with fail
        go_ret
        exact ⟨retB' HF.out.symm, BW.out⟩
  · have hbz : (60 : Int) < (cs.length : Int) := by omega
    have HF := Lib.hid (modL_big hb)
    go_enter Try.func13, Try.ntmps13
    go_wp2_with fail
    go_ret
    exact ⟨retB' HF.out.symm, Below.refl _ _⟩

theorem ngi_twice {x : Itm} (h : x.ok) : ngi (ngi x) = x := by
  obtain ⟨k, p, t, q, n, v, g⟩ := x
  obtain ⟨h1, h2, h3, h4, h5, h6, h7⟩ := h
  have e : ∀ y : Int, I64 y → wrap64 (-wrap64 (-y)) = y := by
    intro y hy
    unfold I64 at hy
    unfold wrap64
    omega
  unfold ngi
  simp only [Itm.mk.injEq]
  exact ⟨trivial, e _ h2, trivial, trivial, e _ h5, e _ h6, e _ h7⟩
theorem ngs_twice {cs : List Itm} (h : ∀ x ∈ cs, x.ok) : (cs.map ngi).map ngi = cs := by
  rw [List.map_map]
  conv => rhs; rw [← List.map_id cs]
  exact List.map_congr_left (fun x hx => ngi_twice (h x hx))
theorem tot_map_bound {f : Itm → Int} {B : Int} : ∀ (cs : List Itm), (∀ x ∈ cs, -B ≤ f x ∧ f x ≤ B) → -B * (cs.length : Int) ≤ tot (cs.map f) ∧ tot (cs.map f) ≤ B * (cs.length : Int)
  | [], _ => by simp [tot]
  | x :: cs, h => by
    have h1 := tot_map_bound cs (fun y hy => h y (by simp [hy]))
    have h2 := h x (by simp)
    rw [List.map_cons, tot, List.length_cons]
    have e1 : -B * ((cs.length + 1 : Nat) : Int) = -B * (cs.length : Int) + -B := by rw [Int.natCast_add, Int.mul_add]; simp
    have e2 : B * ((cs.length + 1 : Nat) : Int) = B * (cs.length : Int) + B := by rw [Int.natCast_add, Int.mul_add]; simp
    rw [e1, e2]
    omega
theorem tot_neg {f : Itm → Int} : ∀ (cs : List Itm), (∀ x ∈ cs, f (ngi x) = -f x) → tot ((cs.map ngi).map f) = -tot (cs.map f)
  | [], _ => by simp [tot]
  | x :: cs, h => by
    rw [List.map_cons, List.map_cons, List.map_cons, tot, tot, tot_neg cs (fun y hy => h y (by simp [hy])), h x (by simp)]
    omega
theorem fit_small {S : Int} (h : -1000000000000000 ≤ S) (h' : S ≤ 1000000000000000) : fitI S = true := decide_eq_true (by omega)

/-- The plain law: totals of modest lists. -/
theorem sums_small {cs : List Itm} (h : modL cs = true) : (-131941395333120 ≤ sNet cs ∧ sNet cs ≤ 131941395333120) ∧ (-131941395333120 ≤ sVat cs ∧ sVat cs ≤ 131941395333120) ∧ (-131941395333120 ≤ sGross cs ∧ sGross cs ≤ 131941395333120) := by
  obtain ⟨h1, h2⟩ := of_decide_eq_true h
  have b1 := tot_map_bound (f := (·.net)) (B := 1099511627776) cs (fun x hx => ⟨(h2 x hx).1, (h2 x hx).2.1⟩)
  have b2 := tot_map_bound (f := (·.vat)) (B := 1099511627776) cs (fun x hx => ⟨(h2 x hx).2.2.1, (h2 x hx).2.2.2.1⟩)
  have b3 := tot_map_bound (f := (·.gross)) (B := 2199023255552) cs (fun x hx => ⟨(h2 x hx).2.2.2.2.1, (h2 x hx).2.2.2.2.2.1⟩)
  unfold sNet sVat sGross
  omega
theorem sums_neg {cs : List Itm} (h : modL cs = true) : sNet (cs.map ngi) = -sNet cs ∧ sVat (cs.map ngi) = -sVat cs ∧ sGross (cs.map ngi) = -sGross cs := by
  obtain ⟨h1, h2⟩ := of_decide_eq_true h
  refine ⟨tot_neg (f := (·.net)) cs (fun x hx => ?_), tot_neg (f := (·.vat)) cs (fun x hx => ?_), tot_neg (f := (·.gross)) cs (fun x hx => ?_)⟩
  all_goals
    have := h2 x hx
    unfold modP at this
    show wrap64 _ = _
    unfold wrap64
    omega
theorem sums_append (cs ds : List Itm) : sNet (cs ++ ds) = sNet cs + sNet ds ∧ sVat (cs ++ ds) = sVat cs + sVat ds ∧ sGross (cs ++ ds) = sGross cs + sGross ds := by
  unfold sNet sVat sGross
  rw [List.map_append, List.map_append, List.map_append, tot_append, tot_append, tot_append]
  exact ⟨rfl, rfl, rfl⟩
theorem tot_of {cs : List Itm} {a b c : Int} (h1 : sNet cs = a) (h2 : sVat cs = b) (h3 : sGross cs = c) (ha : -1000000000000000 ≤ a ∧ a ≤ 1000000000000000) (hb : -1000000000000000 ≤ b ∧ b ≤ 1000000000000000) (hc : -1000000000000000 ≤ c ∧ c ≤ 1000000000000000) : totV cs = .tuple #[i a, i b, i c, i 0] := by
  have hok : totOk cs = true := by
    unfold totOk
    rw [h1, h2, h3, fit_small ha.1 ha.2, fit_small hb.1 hb.2, fit_small hc.1 hc.2]
    rfl
  rw [totYes hok, h1, h2, h3]
end MonW
end Go.Proofs.Ytpgpibojegjogaa
