/-
  append of a whole list (it may be nil) onto a slice that the call owns: the law at a step of a region that draws; 'append(append([]E{}, l...), x)' as a list. Nothing here names the program.
-/
import Derived.Test.YtdofemkfmkopcaaDoorTree
import Derived.Deep.AppendLies
namespace Go.Proofs.YtdofemkfmkopcaaDoor
open Go Go.RowKit
set_option linter.unusedSimpArgs false
set_option linter.unusedVariables false

theorem addr_none (b o n : Nat) : Addr.add ⟨b, o, none⟩ n = ⟨b, o + n, none⟩ := by
  unfold Addr.add; split <;> simp [*]

theorem run_append_nothing {P : Program} (w : World) {t ty e : TypeId} {i : TypeInfo} (ht : P.underlying t = some (.slice e)) (hi : P.info? e = some i) {A : Option Addr} {n c c' : Nat} (hnc : n ≤ c) :
    (Builtin.append_ #[t, t] ty #[.slice A n c, .slice none 0 c']).run P w = .ok (.slice A n c) w := by
  cases A <;> simp [Builtin.append_, run_underlying ht, sizeOf, typeInfo, hi, Builtin.lenOf, Builtin.firstCells, loadCells, loadCellsFrom, storeCells, hnc]

/-- append(v, x...): x nil, or a list that is known. -/
theorem step_append_all {P : Program} (w : World) {ops : Array Oper} {o : Oper} {a : Act} {K : Act → World → Prop} {Q : Exit → Act → World → Prop} {E : Prop} (hgd : o.guard = none) (s x : Operand) (t : TypeId)
    (ho : o.op = .call { callee := .builtin .append, args := #[s, x], argTypes := #[t, t] })
    (base : Nat) (e : TypeId) (i : TypeInfo) (z : Value) (size bytes : Nat) (ht : P.underlying t = some (.slice e)) (hi : P.info? e = some i) (hz : i.zero = some z)
    (hsize : i.size = size) (hby : i.bytes = bytes) (hzs : z.cells.size = size) (hsz : 0 < size)
    (v : Value) (n : Nat) (xs : List Value) (hs : a.eval s = v) (hown : w.ownsRow base e size v n xs)
    (xv : Value) (m : Nat) (news : List Value) (hx : a.eval x = xv) (hl : news.length = m * size)
    (hnews : (m = 0 ∧ ∃ c, xv = .slice none 0 c) ∨ ∃ ad c, xv = .slice (some ad) m c ∧ ∀ j u, news[j]? = some u → w.cell? (ad.add j) = some u) (h1 : ∀ u ∈ news, u.oneCell' = true)
    (h63 : n + m ≤ maxLen) (hbytes : (n + m) * bytes ≤ 140737488355328) (hbase : base ≤ w.heap.size) (H : Nat) (hH : w.heap.size = H) (N : Nat) (hN : n + m = N)
    (h : ∀ A c w', w'.ownsRow base e size (.slice A N c) N (xs ++ news) → w.grownBy w' v.ownBlock → ((Value.slice A N c).ownBlock = v.ownBlock ∨ (Value.slice A N c).ownBlock = some H) → K (a.put o.dst (.slice A N c)) w') :
    if Region.wanted o (yielded ops a.tmps) = true then Oper.wp P o a w K Q else E := by
  have hw : Region.wanted o (yielded ops a.tmps) = true := by simp [Region.wanted, hgd]
  rw [if_pos hw]
  subst hN
  rcases hnews with ⟨rfl, c, rfl⟩ | ⟨ad, c, rfl, hn⟩
  · have hn0 : news = [] := List.eq_nil_of_length_eq_zero (by simpa using hl)
    subst hn0
    obtain ⟨A, cc, hv, hle⟩ : ∃ A cc, v = .slice A n cc ∧ n ≤ cc := by
      rcases hown.2 with ⟨e1, e2⟩ | ⟨g, cap, cur, e1, _, _, e2, _⟩
      · exact ⟨none, 0, by rw [e1, e2], by omega⟩
      · exact ⟨_, cap, e1, e2⟩
    subst hv
    have hr := run_append_nothing (P := P) w (ty := o.type) (c' := c) ht hi (A := A) hle
    unfold Oper.wp execOp
    simp only [ho, resolve, invoke, builtin, Sem.run_bind, Sem.run_pure, Result.andThen_ok, List.map_toArray, List.map_cons, List.map_nil, hs, hx, hr]
    exact h A cc w (by simpa using hown) ⟨rfl, rfl, rfl, Nat.le_refl _, fun _ _ _ => rfl⟩ (Or.inl rfl)
  · obtain ⟨v', w', hr, h2, h3, _, h5⟩ := run_append_own_at (P := P) w base t o.type e i z size bytes ht hi hz hsize hby hzs hsz v n xs hown ad m c news hl hn h1 h63 hbytes hbase
    obtain ⟨A, cc, hv⟩ : ∃ A cc, v' = .slice A (n + m) cc := by
      rcases h2.2 with ⟨e1, e2⟩ | ⟨g, cap, cur, e1, _⟩
      · exact ⟨none, 0, by rw [e1, e2]⟩
      · exact ⟨_, cap, e1⟩
    subst hv
    unfold Oper.wp execOp
    simp only [ho, resolve, invoke, builtin, Sem.run_bind, Sem.run_pure, Result.andThen_ok, List.map_toArray, List.map_cons, List.map_nil, hs, hx, hr]
    exact h A cc w' h2 h3 (by rw [← hH]; exact h5)

/-- The same at the list of a plain region's operations. -/
theorem wpList_append_all {P : Program} (w : World) {ops : Array Oper} {rest : List Oper} {o : Oper} {a : Act} {Q : Exit → Act → World → Prop} (hgd : o.guard = none) (s x : Operand) (t : TypeId)
    (ho : o.op = .call { callee := .builtin .append, args := #[s, x], argTypes := #[t, t] })
    (base : Nat) (e : TypeId) (i : TypeInfo) (z : Value) (size bytes : Nat) (ht : P.underlying t = some (.slice e)) (hi : P.info? e = some i) (hz : i.zero = some z)
    (hsize : i.size = size) (hby : i.bytes = bytes) (hzs : z.cells.size = size) (hsz : 0 < size)
    (v : Value) (n : Nat) (xs : List Value) (hs : a.eval s = v) (hown : w.ownsRow base e size v n xs)
    (xv : Value) (m : Nat) (news : List Value) (hx : a.eval x = xv) (hl : news.length = m * size)
    (hnews : (m = 0 ∧ ∃ c, xv = .slice none 0 c) ∨ ∃ ad c, xv = .slice (some ad) m c ∧ ∀ j u, news[j]? = some u → w.cell? (ad.add j) = some u) (h1 : ∀ u ∈ news, u.oneCell' = true)
    (h63 : n + m ≤ maxLen) (hbytes : (n + m) * bytes ≤ 140737488355328) (hbase : base ≤ w.heap.size) (H : Nat) (hH : w.heap.size = H) (N : Nat) (hN : n + m = N)
    (h : ∀ A c w', w'.ownsRow base e size (.slice A N c) N (xs ++ news) → w.grownBy w' v.ownBlock → ((Value.slice A N c).ownBlock = v.ownBlock ∨ (Value.slice A N c).ownBlock = some H) → wpList P ops Q rest (a.put o.dst (.slice A N c)) w') : wpList P ops Q (o :: rest) a w :=
  wpList_plain hgd fun K hK => by
    have hw : Region.wanted o (yielded ops a.tmps) = true := by simp [Region.wanted, hgd]
    have h2 := step_append_all (E := True) (ops := ops) (K := K) (Q := Q) w hgd s x t ho base e i z size bytes ht hi hz hsize hby hzs hsz v n xs hs hown xv m news hx hl hnews h1 h63 hbytes hbase H hH N hN (fun A c w' h1 h2 h3 => hK _ _ (h A c w' h1 h2 h3))
    rw [if_pos hw] at h2
    exact h2

/-- A made slice of length and capacity 0 in a block of its own. -/
theorem ownsRow_made {w : World} {base size g : Nat} {E : TypeId} (h : w.heap[g]? = some (.cells #[] E (0, 0))) (hg : base ≤ g) : w.ownsRow base E size (.slice (some ⟨g, 0, none⟩) 0 0) 0 [] :=
  ⟨by simp, Or.inr ⟨g, 0, #[], rfl, hg, h, Nat.le_refl _, Nat.zero_le _, by simp, by simp⟩⟩

theorem row_le {B g n c : Nat} (h : B ≤ g) : ∀ k, (Value.slice (some ⟨g, 0, none⟩) n c).ownBlock = some k → B ≤ k := by
  intro k e
  simp only [Value.ownBlock, Option.some.injEq] at e
  omega
/-- What append reads of a list: m things, their cells xs. -/
def NewsAt (w : World) (S : Nat → Prop) (v : Value) (m : Nat) (xs : List Value) : Prop :=
  (m = 0 ∧ xs = [] ∧ ∃ A c, v = .slice A 0 c) ∨ ∃ b o c, v = .slice (some ⟨b, o, none⟩) m c ∧ S b ∧ ∀ j u, xs[j]? = some u → w.cell? ⟨b, o + j, none⟩ = some u
theorem NewsAt.to {w W : World} {S : Nat → Prop} {v : Value} {m : Nat} {xs : List Value} (h : NewsAt w S v m xs) (hk : ∀ b, S b → W.heap[b]? = w.heap[b]?) :
    (m = 0 ∧ ∃ c, v = .slice none 0 c) ∨ ∃ ad c, v = .slice (some ad) m c ∧ ∀ j u, xs[j]? = some u → W.cell? (ad.add j) = some u := by
  rcases h with ⟨rfl, rfl, A, c, rfl⟩ | ⟨b, o, c, rfl, hb, hc⟩
  · cases A with
    | none => exact Or.inl ⟨rfl, c, rfl⟩
    | some ad => exact Or.inr ⟨ad, c, rfl, by simp⟩
  · exact Or.inr ⟨_, c, rfl, fun j u hj => by rw [addr_none]; exact (cell_keep (hk b hb) _).trans (hc j u hj)⟩
section
variable {α : Type} {ρ : Rep α}
theorem Rep.Sl.news {w : World} {S : Nat → Prop} {v : Value} {l : List α} (h : ρ.Sl w S v l) : ∃ xs, ρ.All w S l xs ∧ NewsAt w S v l.length xs ∧ xs.length = l.length * ρ.size ∧ ∀ u ∈ xs, u.oneCell' = true := by
  obtain ⟨A, n, c, rfl, rfl, _, hp⟩ := h
  by_cases h0 : 0 < l.length
  · obtain ⟨b, o, xs, rfl, hb, hx, hc⟩ := hp h0
    exact ⟨xs, hx, Or.inr ⟨b, o, c, rfl, hb, hc⟩, hx.len, hx.one⟩
  · have : l = [] := List.eq_nil_of_length_eq_zero (by omega)
    subst this
    exact ⟨[], rfl, Or.inl ⟨rfl, rfl, A, c, rfl⟩, by simp, by simp⟩
/-- 'append(append([]E{}, l...), a)': the list with one more. -/
theorem Rep.Sl.snoc {w w2 : World} {S S2 : Nat → Prop} {v : Value} {l : List α} {a : α} {xs cs : List Value} {E : TypeId} {base n : Nat} (hx : ρ.All w S l xs) (ha : ρ.R w2 S2 a cs)
    (hk : ∀ b, S b → w2.heap[b]? = w.heap[b]?) (hS : ∀ b, S b → S2 b) (hown : w2.ownsRow base E ρ.size v n (([] ++ xs) ++ cs)) (hn : n = l.length + 1) (hm : n ≤ maxLen) (hg : ∀ g, base ≤ g → g < w2.heap.size → S2 g) : ρ.Sl w2 S2 v (l ++ [a]) := by
  obtain ⟨g, cap, e, hb, hlt⟩ := hown.form (by omega)
  subst e
  refine ⟨_, n, cap, rfl, by simp [hn], hm, fun _ => ⟨g, 0, xs ++ cs, rfl, hg g hb hlt, (hx.keep hk hS).append (Rep.All.single ha), fun j u hj => ?_⟩⟩
  have := hown.cells (g := g) rfl j u (by simpa using hj)
  rw [addr_none] at this
  exact this
end

end Go.Proofs.YtdofemkfmkopcaaDoor
