/- Lemmas. -/
import Derived.Test.YthfokmjpbnfihaaDoorIt
import Derived.Laws.IdiomStrings
namespace Go.Proofs.YthfokmjpbnfihaaDoor
open Go Go.RowKit
set_option linter.unusedSimpArgs false
set_option linter.unusedVariables false
noncomputable section
set_option maxRecDepth 100000
set_option maxHeartbeats 2000000
variable {l:List UInt8} {n m:Nat}

theorem bytes_mk {x:ByteArray} (h:x.data.toList=l):x=⟨l.toArray⟩ := by subst h; cases x; simp
theorem dec_step (h:Lib.decDigits n=Lib.decDigits m++l) (hm:¬ m<10):Lib.decDigits n=Lib.decDigits (m / 10)++(UInt8.ofNat (48+m % 10) :: l) := by
  rw [h,Lib.decDigits,dif_neg hm]; simp
theorem dec_end (h:Lib.decDigits n=Lib.decDigits m++l) (hm:m<10):Lib.decDigits n=UInt8.ofNat (48+m % 10) :: l := by
  rw [h,Lib.decDigits,dif_pos hm,Nat.mod_eq_of_lt hm]; simp
theorem run_byte_string {P:Program} {src dst e:TypeId} (hs:P.underlying src=some (.slice e)) (he:P.underlying e=some (.int .u8)) (hd:P.underlying dst=some .string) (W:World) (c:Nat) (hc:c<256) :
    (convert src dst (.slice (some ⟨W.heap.size,0,none⟩) 1 1)).run P (W.alloc (.cells #[.int .u8 (c:Int)] e))=.ok (.string ⟨#[UInt8.ofNat c]⟩) (W.alloc (.cells #[.int .u8 (c:Int)] e)) := by
  have h := run_convert_bytes_back (P := P) (W.alloc (.cells #[.int .u8 (c:Int)] e)) src dst e ⟨W.heap.size,0,none⟩ 1 [UInt8.ofNat c] hs he hd (fun j hj=>by
    have:j=0 := by simpa using hj
    subst this
    rw [addr_none]
    have hc':(UInt8.ofNat c).toNat=c := by simp [UInt8.toNat_ofNat]; omega
    simp [hc'])
  simpa using h
theorem digits_any (n:Nat) (w:World) (hn:n≤1000000000000) :
    Calls Tryd.prog 15 #[.int .i64 n] w fun e w'=>e=.returned (.string ⟨(Lib.decDigits n).toArray⟩)∧Below w.heap.size w w' := by
  have hdl := dec_len n n (Nat.le_refl _)
  go_enter Tryd.func15,Tryd.ntmps15
  go_wp2_with fail
  go_loopg [0,3] n (fun k v0 v3 wr=>∃(m:Nat) (s:ByteArray),k=m∧m≤n∧v0=.int .i64 m∧v3=.string s∧Lib.decDigits n=Lib.decDigits m++s.data.toList∧Below w.heap.size w wr)
  case atStart=>exact ⟨n,⟨#[]⟩,rfl,Nat.le_refl _,rfl,rfl,by simp,Below.refl _ _⟩
  case round =>
    obtain ⟨m,s,rfl,hmn,rfl,rfl,hd,hb⟩ := hrel
    have hsz:s.size≤n+1 := by
      have h1:s.data.toList.length=s.size := by rw [Array.length_toList]; rfl
      rw [hd,List.length_append] at hdl; omega
    have e0:((48+gk % 10:Nat):Int)=48+(gk:Int) % 10 := by omega
    have kc := fun (W:World)=>run_byte_string (P := Tryd.prog) Tryd.underlying69 Tryd.underlying5 Tryd.underlying9 W (48+gk % 10) (by omega)
    rw [e0] at kc
    have t1:¬ 9223372036854775807<1+s.size := by omega
    clear e0
    have HB := Lib.hid hb
    have HD := Lib.hid hd
    have HDL := Lib.hid hdl
    clear hb hd hdl
    by_cases hm:gk<10
    · have q1:((gk:Int) / 10 == 0)=true := by simp; omega
      go_wp2_with fail
      go_returns
      exact ⟨congrArg (fun x=>Ending.returned (Value.string x)) (bytes_mk (by rw [dec_end HD.out hm]; simp)),(HB.out.alloc (HB.out.size) _)⟩
    · have q1:((gk:Int) / 10 == 0)=false := by rw [beq_eq_false_iff_ne]; omega
      go_wp2_with fail
      go_roundg (gk / 10)
      case measure=>omega
      case rel=>exact ⟨gk / 10,_,rfl,by omega,by simp,rfl,by rw [dec_step HD.out hm]; simp,HB.out.alloc (HB.out.size) _⟩
end

end Go.Proofs.YthfokmjpbnfihaaDoor
