/-
  A slice that the call itself grows by all elements of another.
-/
import Derived.Test.YtpgpibojegjogaaGrow
import Derived.Laws.AppendOwnNone
namespace Go.Proofs.Ytpgpibojegjogaa
set_option linter.unusedVariables false
open Go.RowKit Go.ChangeShapes Go.WideShapes Go.Deep
section
variable {α : Type} {R : List Value → α → Prop} {e : TypeId} {size base : Nat} {w w' : World} {v : Value} {xs : List α}
/-- 'v = append(v, u...)'. -/
theorem wpList_growAll {P : Program} {ops : Array Oper} {rest : List Oper} {o : Oper} {a : Act} {Q : Exit → Act → World → Prop} (hgd : o.guard = none) (s x : Operand) (t : TypeId)
    (ho : o.op = .call { callee := .builtin .append, args := #[s, x], argTypes := #[t, t] })
    (i : TypeInfo) (z : Value) (bytes : Nat) (ht : P.underlying t = some (.slice e)) (hi : P.info? e = some i) (hz : i.zero = some z)
    (hsize : i.size = size) (hby : i.bytes = bytes) (hzs : z.cells.size = size) (hsz : 0 < size)
    (hs : a.eval s = v) (hown : Own R e size base w v xs) (u : Value) (ys : List α) (hx : a.eval x = u) (hu : SliceAt R size w u ys)
    (h1 : ∀ r x, R r x → ∀ u ∈ r, u.oneCell' = true) (hn : xs.length + ys.length ≤ 16777216) (hb8 : bytes ≤ 4096) (hbase : base ≤ w.heap.size)
    (h : ∀ v' w', Own R e size base w' v' (xs ++ ys) → w.grownBy w' v.ownBlock → Below base w w' → IsSl v' → wpList P ops Q rest (a.put o.dst v') w') : wpList P ops Q (o :: rest) a w := by
  obtain ⟨rs, k1, k2⟩ := hown
  have hsl : IsSl v := by
    rcases k1.2 with ⟨h0, _⟩ | ⟨g', cap, cur, h0, _⟩
    · exact ⟨_, _, _, h0⟩
    · exact ⟨_, _, _, h0⟩
  obtain ⟨A, c, rfl, l1, l2, l0⟩ := SliceAt.form' hu
  rcases A with _ | ad
  · have hc0 := l0 rfl
    have hcl : ys = [] := List.eq_nil_of_length_eq_zero (by omega)
    subst hcl
    subst hc0
    refine wpList_append_own_none hgd s x t ho base e i size ht hi v xs.length rs.flatten hs k1 hx ?_
    refine h v w ⟨rs, ?_, ?_⟩ (World.grownBy.refl _ _) (Below.refl _ _) hsl
    · rw [List.append_nil]; exact k1
    · rw [List.append_nil]; exact k2
  · obtain ⟨qs, hqs, hcells⟩ := SliceAt.rows hsz hu
    refine wpList_append_own w hgd s x t ho base e i z size bytes ht hi hz hsize hby hzs hsz v xs.length rs.flatten hs k1 ad ys.length c qs.flatten hx (by rw [flat_len qs hqs.each, hqs.1]) (hcells ad rfl) (rows_one hqs h1) (by unfold maxLen; omega) ?_ hbase ?_
    · exact Nat.le_trans (Nat.mul_le_mul (show xs.length + ys.length ≤ 16777217 by omega) hb8) (by decide)
    · intro v' w' ho hg _
      refine h v' w' ⟨rs ++ qs, ?_, rows_append k2 hqs⟩ hg ((Below.refl _ _).grown hg hbase (fun k hk => (k1.lt k hk).1)) ?_
      · rw [List.flatten_append, List.length_append]; exact ho
      · rcases ho.2 with ⟨h0, _⟩ | ⟨g', cap, cur, h0, _⟩
        · exact ⟨_, _, _, h0⟩
        · exact ⟨_, _, _, h0⟩

end
end Go.Proofs.Ytpgpibojegjogaa
