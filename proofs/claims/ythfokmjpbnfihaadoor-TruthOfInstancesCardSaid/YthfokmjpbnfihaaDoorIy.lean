/- Lemmas. -/
import Derived.Test.YthfokmjpbnfihaaDoorIx
namespace Go.Proofs.YthfokmjpbnfihaaDoor
open Go Go.RowKit
set_option linter.unusedSimpArgs false
set_option linter.unusedVariables false
noncomputable section
theorem lookE_at (env:Env) (w:ByteArray) (j:Nat) (hj:j<env.length) (hn:∀i,j<i→∀p:ByteArray × ByteArray,env[i]? = some p→p.1≠w) (h:env[j].1=w):lookE env w=env[j].2 := by
  have e:env=env.take j++(env[j] :: env.drop (j+1)) := by rw [← List.drop_eq_getElem_cons hj,List.take_append_drop]
  conv=>lhs; rw [e]
  unfold lookE
  rw [List.foldl_append,List.foldl_cons,look_free w (env.drop (j+1)) _ (fun hm=>?_),if_pos h]
  obtain ⟨p,h1,h2⟩ := List.mem_map.1 hm
  obtain ⟨i,hi⟩ := List.getElem?_of_mem h1
  rw [List.getElem?_drop] at hi
  exact hn _ (by omega) p hi h2
theorem lookE_none (env:Env) (w:ByteArray) (hn:∀(i:Nat) (p:ByteArray × ByteArray),env[i]? = some p→p.1≠w):lookE env w=w := by
  unfold lookE
  refine look_free w env w (fun hm=>?_)
  obtain ⟨p,h1,h2⟩ := List.mem_map.1 hm
  obtain ⟨i,hi⟩ := List.getElem?_of_mem h1
  exact hn i p hi h2
theorem renFs_append (nm:Nat→ByteArray) (env:Env):∀(l m:List (Tree FmL)) (k:Nat),renFs nm env (l++m) k=((renFs nm env l k).1++(renFs nm env m (renFs nm env l k).2).1,(renFs nm env m (renFs nm env l k).2).2)
  | [],m,k=>by simp [renFs]
  | t :: l,m,k=>by
    rw [List.cons_append,renFs_c,renFs_c,renFs_append nm env l m]
    rfl
theorem renFs_take (nm:Nat→ByteArray) (env:Env) (l:List (Tree FmL)) (k j:Nat) (h:j<l.length):renFs nm env (l.take (j+1)) k=((renFs nm env (l.take j) k).1++[(renF nm env l[j] (renFs nm env (l.take j) k).2).1],(renF nm env l[j] (renFs nm env (l.take j) k).2).2) := by
  rw [List.take_succ_eq_append_getElem h,renFs_append]
  simp [renFs]
theorem renFs_len (nm:Nat→ByteArray) (env:Env):∀(l:List (Tree FmL)) (k:Nat),(renFs nm env l k).1.length=l.length
  | [],_=>rfl
  | t :: l,k=>by simp [renFs,renFs_len nm env l]
theorem lookE_size {M:Nat} (w:ByteArray):∀(env:Env) (r:ByteArray),(∀p∈env,p.2.size≤M)→r.size≤M→(env.foldl (fun r p=>if p.1=w then p.2 else r) r).size≤M
  | [],_,_,h=>h
  | p :: env,r,h1,h=>by
    rw [List.foldl_cons]
    refine lookE_size w env _ (fun q hq=>h1 q (List.mem_cons_of_mem _ hq)) ?_
    split
    · exact h1 p (List.mem_cons_self ..)
    · exact h
theorem quNs_take (l:List (Tree FmL)) (j:Nat) (h:j<l.length):quNs (l.take j)+quN l[j]≤quNs l := by
  have key:∀(l:List (Tree FmL)) (j:Nat) (h:j<l.length),quNs (l.take j)+quN l[j]≤quNs l := by
    intro l
    induction l with
    | nil=>intro j h; simp at h
    | cons t l ih =>
      intro j h
      cases j with
      | zero=>simp [quNs]
      | succ j =>
        have := ih j (by simpa using h)
        simp only [List.take_succ_cons,quNs,List.getElem_cons_succ]
        omega
  exact key l j h
end

end Go.Proofs.YthfokmjpbnfihaaDoor
