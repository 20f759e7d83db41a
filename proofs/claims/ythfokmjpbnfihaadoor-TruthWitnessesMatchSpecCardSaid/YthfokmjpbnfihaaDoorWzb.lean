/- Lemmas. -/
import Derived.Test.YthfokmjpbnfihaaDoorWh
namespace Go.Proofs.YthfokmjpbnfihaaDoor
open Go Go.RowKit
set_option linter.unusedSimpArgs false
set_option linter.unusedVariables false
noncomputable section
set_option maxRecDepth 1000000
set_option maxHeartbeats 16000000
variable {s_1 s_2 s_35 s_36 s_3 s_4 s_37 s_5:Value} {Q:Exit→Act→World→Prop} {wr wo w:World} {cl:List Con} {j c b o E d:Nat} {nm:ByteArray} {v sz:Int} {rl:List Rel} {B A:Option Addr} {pv:Option Con}

theorem frame_mr {P:Act→Prop} (h:∀x0 x1 x2 x3 x4 x5 x6 x7 x8 x9 x10 x11 x12 x13 x14 x15 x16 x17 x18 x19 x20 x21 x22 x23 x24 x25 x26 x27 x28 x29 x30 x31 x32 x33 x34 x35 x36 x37 x38 x39 x40 x41 x42 x43 x44 x45 x46 x47 x48 x49 x50 x51 x52 x53 x54 x55 x56 x57 x58 x59 x60 x61 x62 x63 x64 x65 x66 x67 x68 x69 x70 x71 x72 x73 x74 x75 x76 x77 x78 x79 x80 x81 x82 x83 x84 x85 x86 x87 x88 x89 x90 x91 x92 x93 x94 x95 x96 x97 x98 x99 x100 x101 x102 x103 x104 x105 x106 x107 x108 x109 x110 x111 x112 x113 x114 x115 x116 x117 x118 x119 x120 x121 x122 x123 x124 x125 x126 x127 x128 x129 x130 x131 x132 x133 x134 x135 x136 x137 x138 x139 x140 x141 x142 x143 x144 x145 x146 x147 x148 x149 x150 x151 x152 x153 x154 x155 x156 x157 x158 x159 x160 x161 x162 x163 x164 x165 x166 x167 x168 x169 x170 x171 x172 x173 x174 x175 x176 x177 x178 x179 x180 x181 x182 x183 x184 x185 x186 x187:Value,P ⟨(x0 :: x1 :: x2 :: x3 :: x4 :: x5 :: x6 :: x7 :: x8 :: x9 :: x10 :: x11 :: x12 :: x13 :: x14 :: x15 :: x16 :: x17 :: x18 :: x19 :: x20 :: x21 :: x22 :: x23 :: x24 :: x25 :: x26 :: x27 :: x28 :: x29 :: x30 :: x31 :: x32 :: x33 :: x34 :: x35 :: x36 :: x37 :: x38 :: x39 :: x40 :: x41 :: x42 :: x43 :: x44 :: x45 :: x46 :: x47 :: x48 :: x49 :: x50 :: x51 :: x52 :: x53 :: x54 :: x55 :: x56 :: x57 :: x58 :: x59 :: x60 :: x61 :: x62 :: x63 :: x64 :: x65 :: x66 :: x67 :: x68 :: x69 :: x70 :: x71 :: x72 :: x73 :: x74 :: x75 :: x76 :: x77 :: x78 :: x79 :: x80 :: x81 :: x82 :: x83 :: x84 :: x85 :: x86 :: x87 :: x88 :: x89 :: x90 :: x91 :: x92 :: x93 :: x94 :: x95 :: x96 :: x97 :: x98 :: x99 :: x100 :: x101 :: x102 :: x103 :: x104 :: x105 :: x106 :: x107 :: x108 :: x109 :: x110 :: x111 :: x112 :: x113 :: x114 :: x115 :: x116 :: x117 :: x118 :: x119 :: x120 :: x121 :: x122 :: x123 :: x124 :: x125 :: x126 :: x127 :: x128 :: x129 :: x130 :: x131 :: x132 :: x133 :: x134 :: x135 :: x136 :: x137 :: x138 :: x139 :: x140 :: x141 :: x142 :: x143 :: x144 :: x145 :: x146 :: x147 :: x148 :: x149 :: x150 :: x151 :: x152 :: x153 :: x154 :: x155 :: x156 :: x157 :: x158 :: x159 :: x160 :: x161 :: x162 :: x163 :: x164 :: x165 :: x166 :: x167 :: x168 :: x169 :: x170 :: x171 :: x172 :: x173 :: x174 :: x175 :: x176 :: x177 :: x178 :: x179 :: x180 :: x181 :: x182 :: x183 :: x184 :: x185 :: x186 :: x187 :: []).toArray,[]⟩):∀a:Act,a.tmps.toList.length=188→a.defers=[]→P a := by
  rintro ⟨⟨l⟩,d⟩ hs hd
  simp only at hd
  subst hd
  revert l
  show ∀l:List Value,l.length=188→P ⟨⟨l⟩,[]⟩
  iterate 188 refine openS (fun _=>?_)
  refine open0 ?_
  exact h ..
noncomputable def cF20:Code := Tryd.f20.body.getD .skip
def c_mr_chead := sp 99 279 cF20
theorem mr_chead_wp (hN:∀a',Frm 188 [(1,s_1),(2,s_2),(35,s_35),(36,.int .i64 (cl.length:Nat)),(37,.int .i64 (j:Nat)),(38,.bool (decide (j<cl.length)))] a'→Q .normal a' wr):∀ac,Frm 188 [(1,s_1),(2,s_2),(35,s_35),(36,.int .i64 (cl.length:Nat)),(37,.int .i64 (j:Nat))] ac→Code.wp Tryd.prog c_mr_chead Q ac wr := by
  refine fO (frame_mr ?_)
  intros
  rename_i hq
  iterate 5 (obtain ⟨e,hq⟩ := hq; obtain rfl := sI e; clear e)
  clear hq
  conv=>arg 2; whnf
  replace hN := Lib.hid hN
  by_cases hjl:j<cl.length
  · have q1:(j:Int)<(cl.length:Int) := by omega
    rw [show decide (j<cl.length)=true from decide_eq_true hjl] at hN
    clear hjl
    go_wp2_with fail
    exact hN.out _ (by exact fR rfl rfl rfl)
  · have q1:¬ (j:Int)<(cl.length:Int) := by omega
    rw [show decide (j<cl.length)=false from decide_eq_false hjl] at hN
    clear hjl
    go_wp2_with fail
    exact hN.out _ (by exact fR rfl rfl rfl)
def c_mr_cbox := sp 99 4503 cF20
theorem mr_cbox_wp (hj:j<cl.length) (hb:b<wr.heap.size) (e0:wr.cell? ⟨b,o+j * 2,none⟩=some (.string nm)) (e1:wr.cell? ⟨b,o+j * 2+1,none⟩=some (.int .i64 v)) (hN:∀a',Frm 188 [(1,s_1),(2,s_2),(35,.slice (some ⟨b,o,none⟩) cl.length c),(36,s_36),(37,.int .i64 (j:Nat)),(3,.int .i64 (j:Nat)),(4,.pointer (some ⟨wr.heap.size,0,none⟩))] a'→Q .normal a' (wr.alloc (.cells #[.string nm,.int .i64 v] 49 (0,0)))):∀ac,Frm 188 [(1,s_1),(2,s_2),(35,.slice (some ⟨b,o,none⟩) cl.length c),(36,s_36),(37,.int .i64 (j:Nat))] ac→Code.wp Tryd.prog c_mr_cbox Q ac wr := by
  refine fO (frame_mr ?_)
  intros
  rename_i hq
  iterate 5 (obtain ⟨e,hq⟩ := hq; obtain rfl := sI e; clear e)
  clear hq
  conv=>arg 2; whnf
  replace hN := Lib.hid hN
  have q0:(0:Int)≤(j:Int) := by omega
  have q1:(j:Int)<(cl.length:Int) := by omega
  have hbl2:b<wr.heap.size+1 := by omega
  go_wp2_with fail
  exact hN.out _ (by exact fR rfl rfl rfl)
def c_mr_c0 := sp 99 10647 cF20
theorem mr_c0_wp (hN:∀a',Frm 188 [(1,s_1),(2,s_2),(35,s_35),(36,s_36),(37,s_37),(3,s_3),(4,s_4),(5,.int .i64 0)] a'→Q .normal a' wo):∀ac,Frm 188 [(1,s_1),(2,s_2),(35,s_35),(36,s_36),(37,s_37),(3,s_3),(4,s_4)] ac→Code.wp Tryd.prog c_mr_c0 Q ac wo := by
  refine fO (frame_mr ?_)
  intros
  rename_i hq
  iterate 7 (obtain ⟨e,hq⟩ := hq; obtain rfl := sI e; clear e)
  clear hq
  conv=>arg 2; whnf
  replace hN := Lib.hid hN
  go_wp2_with fail
  exact hN.out _ (by exact fR rfl rfl rfl)
def c_mr_c9 := sp 99 39319 cF20
theorem mr_c9_wp (hn:nm.size≤maxLen) (hpc:wo.heap[E]?=some (.cells #[.string nm,.int .i64 v] 49 (0,0))) (hN:∀a',Frm 188 [(1,s_1),(2,s_2),(35,s_35),(36,s_36),(37,s_37),(3,s_3),(4,.pointer (some ⟨E,0,none⟩)),(5,s_5),(45,.bool (!okName nm))] a'→Q .normal a' wo):∀ac,Frm 188 [(1,s_1),(2,s_2),(35,s_35),(36,s_36),(37,s_37),(3,s_3),(4,.pointer (some ⟨E,0,none⟩)),(5,s_5)] ac→Code.wp Tryd.prog c_mr_c9 Q ac wo := by
  refine fO (frame_mr ?_)
  intros
  rename_i hq
  iterate 8 (obtain ⟨e,hq⟩ := hq; obtain rfl := sI e; clear e)
  clear hq
  conv=>arg 2; whnf
  have hnm := fun W:World=>refName_any nm W hn
  obtain ⟨ok,hok⟩:∃ok,okName nm=ok := ⟨_,rfl⟩
  rw [hok] at hnm
  have HN := Lib.hid hN
  have HNM := Lib.hid hnm
  have HOK := Lib.hid hok
  clear hN hnm hok
  have pc := hpc
  clear hpc
  have pc_0 := cv0 pc
  have pc_1 := cv1 pc
  have pc_l := lt_heap pc
  replace pc := Lib.hid pc
  go_wp2_with fail
  (with_reducible refine (HNM.out _).mono ?_)
  rintro e wz ⟨rfl,rfl⟩
  go_wp2_with fail
  rw [← HOK.out]
  exact HN.out _ (by exact fR rfl rfl rfl)
def c_mr_c10 := sp 99 88471 cF20
theorem mr_c10_wp (hN:∀a',Frm 188 [(1,s_1),(2,s_2),(35,s_35),(36,s_36),(37,s_37),(3,s_3),(4,s_4),(5,.int .i64 10)] a'→Q .normal a' wo):∀ac,Frm 188 [(1,s_1),(2,s_2),(35,s_35),(36,s_36),(37,s_37),(3,s_3),(4,s_4),(5,.int .i64 0)] ac→Code.wp Tryd.prog c_mr_c10 Q ac wo := by
  refine fO (frame_mr ?_)
  intros
  rename_i hq
  iterate 8 (obtain ⟨e,hq⟩ := hq; obtain rfl := sI e; clear e)
  clear hq
  conv=>arg 2; whnf
  replace hN := Lib.hid hN
  go_wp2_with fail
  exact hN.out _ (by exact fR rfl rfl rfl)
def c_mr_c12 := sp 99 383383 cF20
theorem mr_c12_wp (hN:∀a',Frm 188 [(1,s_1),(2,s_2),(35,s_35),(36,s_36),(37,s_37),(3,s_3),(4,s_4),(5,.int .i64 13)] a'→Q .normal a' wo):∀ac,Frm 188 [(1,s_1),(2,s_2),(35,s_35),(36,s_36),(37,s_37),(3,s_3),(4,s_4),(5,.int .i64 0)] ac→Code.wp Tryd.prog c_mr_c12 Q ac wo := by
  refine fO (frame_mr ?_)
  intros
  rename_i hq
  iterate 8 (obtain ⟨e,hq⟩ := hq; obtain rfl := sI e; clear e)
  clear hq
  conv=>arg 2; whnf
  replace hN := Lib.hid hN
  go_wp2_with fail
  exact hN.out _ (by exact fR rfl rfl rfl)
def c_mr_c14 := sp 99 1563031 cF20
theorem mr_c14_wp (hN:∀a',Frm 188 [(1,s_1),(2,s_2),(35,s_35),(36,s_36),(37,s_37),(3,s_3),(4,s_4),(5,.int .i64 3)] a'→Q .normal a' wo):∀ac,Frm 188 [(1,s_1),(2,s_2),(35,s_35),(36,s_36),(37,s_37),(3,s_3),(4,s_4),(5,.int .i64 0)] ac→Code.wp Tryd.prog c_mr_c14 Q ac wo := by
  refine fO (frame_mr ?_)
  intros
  rename_i hq
  iterate 8 (obtain ⟨e,hq⟩ := hq; obtain rfl := sI e; clear e)
  clear hq
  conv=>arg 2; whnf
  replace hN := Lib.hid hN
  go_wp2_with fail
  exact hN.out _ (by exact fR rfl rfl rfl)
def c_mr_c11 := sp 99 186775 cF20
theorem mr_c11_wp (hj:j<cl.length) (hb:b<wo.heap.size) (hp0:wo.heap[w.heap.size]?=some (.cells #[.int .i64 sz,.slice (some ⟨b,o,none⟩) cl.length c,.slice B rl.length d] 25 (0,0))) (hpf:wo.heap[w.heap.size+1]?=some (.cells #[.int .i64 0,.int .i64 0] 32 (0,0))) (hpc:wo.heap[E]?=some (.cells #[.string nm,.int .i64 v] 49 (0,0))) (hcl:cl.length≤300) (hpv:∀p,pv=some p→∃i,j=i+1∧wo.cell? ⟨b,o+i * 2,none⟩=some (.string p.nm)) (hpv0:pv=none→j=0) (hN:∀a' wx,Frm 188 [(1,.pointer (some ⟨w.heap.size,0,none⟩)),(2,s_2),(35,s_35),(36,s_36),(37,s_37),(3,.int .i64 (j:Nat)),(4,.pointer (some ⟨E,0,none⟩)),(5,s_5),(59,.bool (pv.any fun p=>decide (0≤cmpS p.nm nm)))] a'→(wx.heap=wo.heap∧Below wo.heap.size wo wx)→Q .normal a' wx):∀ac,Frm 188 [(1,.pointer (some ⟨w.heap.size,0,none⟩)),(2,s_2),(35,s_35),(36,s_36),(37,s_37),(3,.int .i64 (j:Nat)),(4,.pointer (some ⟨E,0,none⟩)),(5,s_5)] ac→Code.wp Tryd.prog c_mr_c11 Q ac wo := by
  refine fO (frame_mr ?_)
  intros
  rename_i hq
  iterate 8 (obtain ⟨e,hq⟩ := hq; obtain rfl := sI e; clear e)
  clear hq
  conv=>arg 2; whnf
  have hbo:b<wo.heap.size := hb
  have HN := Lib.hid hN
  have HPV := Lib.hid hpv
  have HPV0 := Lib.hid hpv0
  clear hN hpv hpv0
  have p0 := hp0
  have pf := hpf
  have pc := hpc
  clear hp0 hpf hpc
  have p0_0 := cv0 p0
  have p0_1 := cv1 p0
  have p0_2 := cv2 p0
  have p0_l := lt_heap p0
  replace p0 := Lib.hid p0
  have pf_0 := cv0 pf
  have pf_1 := cv1 pf
  have pf_l := lt_heap pf
  replace pf := Lib.hid pf
  have pc_0 := cv0 pc
  have pc_1 := cv1 pc
  have pc_l := lt_heap pc
  replace pc := Lib.hid pc
  cases pv with
  | none =>
    have t1:decide ((0:Int)<(j:Int))=false := decide_eq_false (by have := HPV0.out rfl; omega)
    have t1n:decide (0<j)=false := decide_eq_false (by have := HPV0.out rfl; omega)
    go_big_quiet (fail)
    go_wp2_with fail
    exact HN.out _ _ (by exact fR rfl rfl rfl) ⟨rfl,below_nq (Below.refl _ _) _⟩
  | some p =>
    obtain ⟨i,hji,f1⟩ := HPV.out p rfl
    have t1:decide ((0:Int)<(j:Int))=true := decide_eq_true (by omega)
    have t1n:decide (0<j)=true := decide_eq_true (by omega)
    have hj1:(j:Int) - 1=(i:Int) := by omega
    have u0:(0:Int)≤(i:Int) := by omega
    have u1:(i:Int)<(cl.length:Int) := by omega
    obtain ⟨bl,hb⟩:∃bl,Op.bytesLess nm.toList p.nm.toList=bl := ⟨_,rfl⟩
    obtain ⟨be,he⟩:∃be,(nm.toList == p.nm.toList)=be := ⟨_,rfl⟩
    have hany:((some p).any fun p=>decide (0≤cmpS p.nm nm))=(bl || be) := by
      simp only [Option.any_some,cmpS_ge]
      cases h3:Op.bytesLess p.nm.toList nm.toList with
      | true =>
        have h4 := less_asym _ _ h3
        rw [h4] at hb
        subst hb
        have h5:(nm.toList == p.nm.toList)=false := by rw [beq_eq_false_iff_ne]; intro e; rw [e,less_irr] at h3; cases h3
        rw [h5] at he
        subst he
        rfl
      | false =>
        cases bl with
        | true=>rfl
        | false =>
          have h5 := less_tri _ _ h3 hb
          rw [h5,beq_self_eq_true] at he
          subst he
          rfl
    have HANY := Lib.hid hany
    clear hany hji
    go_big_quiet (fail)
    go_wp2_with fail
    rw [HANY.out] at HN
    exact HN.out _ _ (by exact fR rfl rfl rfl) ⟨rfl,below_nq (Below.refl _ _) _⟩
def c_mr_c13 := sp 99 776599 cF20
theorem mr_c13_wp (hp0:wo.heap[w.heap.size]?=some (.cells #[.int .i64 sz,.slice A cl.length c,.slice B rl.length d] 25 (0,0))) (hpf:wo.heap[w.heap.size+1]?=some (.cells #[.int .i64 0,.int .i64 0] 32 (0,0))) (hpc:wo.heap[E]?=some (.cells #[.string nm,.int .i64 v] 49 (0,0))) (hN:∀a',Frm 188 [(1,.pointer (some ⟨w.heap.size,0,none⟩)),(2,s_2),(35,s_35),(36,s_36),(37,s_37),(3,s_3),(4,.pointer (some ⟨E,0,none⟩)),(5,s_5),(69,.bool (badV sz v))] a'→Q .normal a' wo):∀ac,Frm 188 [(1,.pointer (some ⟨w.heap.size,0,none⟩)),(2,s_2),(35,s_35),(36,s_36),(37,s_37),(3,s_3),(4,.pointer (some ⟨E,0,none⟩)),(5,s_5)] ac→Code.wp Tryd.prog c_mr_c13 Q ac wo := by
  refine fO (frame_mr ?_)
  intros
  rename_i hq
  iterate 8 (obtain ⟨e,hq⟩ := hq; obtain rfl := sI e; clear e)
  clear hq
  conv=>arg 2; whnf
  replace hN := Lib.hid hN
  have p0 := hp0
  have pf := hpf
  have pc := hpc
  clear hp0 hpf hpc
  have p0_0 := cv0 p0
  have p0_1 := cv1 p0
  have p0_2 := cv2 p0
  have p0_l := lt_heap p0
  replace p0 := Lib.hid p0
  have pf_0 := cv0 pf
  have pf_1 := cv1 pf
  have pf_l := lt_heap pf
  replace pf := Lib.hid pf
  have pc_0 := cv0 pc
  have pc_1 := cv1 pc
  have pc_l := lt_heap pc
  replace pc := Lib.hid pc
  by_cases hv:v<0∨sz≤v
  · have hbv:badV sz v=true := by simp only [badV,decide_eq_true_eq]; exact hv
    have hv2:v<0∨(¬ v<0∧sz≤v) := by omega
    rw [hbv] at hN
    clear hv hbv
    rcases hv2 with q5 | ⟨q5,q6⟩
    all_goals
      go_wp2_with fail
      exact hN.out _ (by exact fR rfl rfl rfl)
  · have hbv:badV sz v=false := by simp only [badV,decide_eq_false_iff_not]; exact hv
    have q5:¬ v<0 := by omega
    have q6:¬ sz≤v := by omega
    rw [hbv] at hN
    clear hv hbv
    go_wp2_with fail
    exact hN.out _ (by exact fR rfl rfl rfl)
def c_mr_ccode := sp 99 22935 cF20
theorem mr_ccode_wp (hj:j<cl.length) (hn:nm.size≤maxLen) (hb:b<wo.heap.size) (hp0:wo.heap[w.heap.size]?=some (.cells #[.int .i64 sz,.slice (some ⟨b,o,none⟩) cl.length c,.slice B rl.length d] 25 (0,0))) (hpf:wo.heap[w.heap.size+1]?=some (.cells #[.int .i64 0,.int .i64 0] 32 (0,0))) (hpc:wo.heap[E]?=some (.cells #[.string nm,.int .i64 v] 49 (0,0))) (hcl:cl.length≤300) (hpv:∀p,pv=some p→∃i,j=i+1∧wo.cell? ⟨b,o+i * 2,none⟩=some (.string p.nm)) (hpv0:pv=none→j=0)
    (hN:∀a' wx,Frm 188 [(1,.pointer (some ⟨w.heap.size,0,none⟩)),(2,.pointer (some ⟨w.heap.size+1,0,none⟩)),(35,.slice (some ⟨b,o,none⟩) cl.length c),(36,.int .i64 (cl.length:Nat)),(37,.int .i64 (j:Nat)),(3,.int .i64 (j:Nat)),(4,.pointer (some ⟨E,0,none⟩)),(5,.int .i64 (conCode sz pv ⟨nm,v⟩:Nat))] a'→(wx.heap=wo.heap∧Below wo.heap.size wo wx)→Q .normal a' wx):∀ac,Frm 188 [(1,.pointer (some ⟨w.heap.size,0,none⟩)),(2,.pointer (some ⟨w.heap.size+1,0,none⟩)),(35,.slice (some ⟨b,o,none⟩) cl.length c),(36,.int .i64 (cl.length:Nat)),(37,.int .i64 (j:Nat)),(3,.int .i64 (j:Nat)),(4,.pointer (some ⟨E,0,none⟩)),(5,.int .i64 0)] ac→Code.wp Tryd.prog c_mr_ccode Q ac wo := by
  intro a0 hf0
  conv=>arg 2; whnf
  refine wp_seq ?_
  refine mr_c9_wp hn hpc (fun a1 h1=>?_) a0 hf0
  have h1d:Frm 188 [(1,.pointer (some ⟨w.heap.size,0,none⟩)),(2,.pointer (some ⟨w.heap.size+1,0,none⟩)),(35,.slice (some ⟨b,o,none⟩) cl.length c),(36,.int .i64 (cl.length:Nat)),(37,.int .i64 (j:Nat)),(3,.int .i64 (j:Nat)),(4,.pointer (some ⟨E,0,none⟩)),(5,.int .i64 0)] a1 := have h := h1; (h.pick [0,1,2,3,4,5,6,7])
  cases hok:okName nm with
  | false =>
    refine wp_cond_true ((h1.eval (k := 45) (v := .bool (!okName nm)) (by simp)).trans (by rw [hok]; rfl)) ?_
    refine mr_c10_wp (fun a2 h2=>hN a2 wo ?_ ⟨rfl,Below.refl _ _⟩) a1 h1d
    rw [show conCode sz pv ⟨nm,v⟩=10 by unfold conCode; rw [if_pos hok]]
    exact h2
  | true =>
    refine wp_cond_false ((h1.eval (k := 45) (v := .bool (!okName nm)) (by simp)).trans (by rw [hok]; rfl)) ?_
    refine wp_seq ?_
    refine mr_c11_wp hj hb hp0 hpf hpc hcl hpv hpv0 (fun a2 w2 h2 e2=>?_) a1 h1d
    have h2d:Frm 188 [(1,.pointer (some ⟨w.heap.size,0,none⟩)),(2,.pointer (some ⟨w.heap.size+1,0,none⟩)),(35,.slice (some ⟨b,o,none⟩) cl.length c),(36,.int .i64 (cl.length:Nat)),(37,.int .i64 (j:Nat)),(3,.int .i64 (j:Nat)),(4,.pointer (some ⟨E,0,none⟩)),(5,.int .i64 0)] a2 := have h := h2; (h.pick [0,1,2,3,4,5,6,7])
    cases hany:(pv.any fun p=>decide (0≤cmpS p.nm nm)) with
    | true =>
      refine wp_cond_true ((h2.eval (k := 59) (v := .bool (pv.any fun p=>decide (0≤cmpS p.nm nm))) (by simp)).trans (by rw [hany])) ?_
      refine mr_c12_wp (fun a3 h3=>hN a3 w2 ?_ e2) a2 h2d
      rw [show conCode sz pv ⟨nm,v⟩=13 by unfold conCode; rw [if_neg (by rw [hok]; decide),if_pos hany]]
      exact h3
    | false =>
      refine wp_cond_false ((h2.eval (k := 59) (v := .bool (pv.any fun p=>decide (0≤cmpS p.nm nm))) (by simp)).trans (by rw [hany])) ?_
      refine wp_seq ?_
      refine mr_c13_wp (wo := w2) (sz := sz) (by rw [e2.1]; exact hp0) (by rw [e2.1]; exact hpf) (by rw [e2.1]; exact hpc) (fun a3 h3=>?_) a2 h2d
      have h3d:Frm 188 [(1,.pointer (some ⟨w.heap.size,0,none⟩)),(2,.pointer (some ⟨w.heap.size+1,0,none⟩)),(35,.slice (some ⟨b,o,none⟩) cl.length c),(36,.int .i64 (cl.length:Nat)),(37,.int .i64 (j:Nat)),(3,.int .i64 (j:Nat)),(4,.pointer (some ⟨E,0,none⟩)),(5,.int .i64 0)] a3 := have h := h3; (h.pick [0,1,2,3,4,5,6,7])
      cases hbv:badV sz v with
      | true =>
        refine wp_cond_true ((h3.eval (k := 69) (v := .bool (badV sz v)) (by simp)).trans (by rw [hbv])) ?_
        refine mr_c14_wp (fun a4 h4=>hN a4 w2 ?_ e2) a3 h3d
        rw [show conCode sz pv ⟨nm,v⟩=3 by unfold conCode; rw [if_neg (by rw [hok]; decide),if_neg (by rw [hany]; decide),if_pos hbv]]
        exact h4
      | false =>
        refine wp_cond_false ((h3.eval (k := 69) (v := .bool (badV sz v)) (by simp)).trans (by rw [hbv])) ?_
        refine wp_skip (hN a3 w2 ?_ e2)
        rw [show conCode sz pv ⟨nm,v⟩=0 by unfold conCode; rw [if_neg (by rw [hok]; decide),if_neg (by rw [hany]; decide),if_neg (by rw [hbv]; decide)]]
        exact h3d
def c_mr_cret := sp 99 31127 cF20
theorem mr_cret_wp {k:Nat} (hpf:wo.heap[w.heap.size+1]?=some (.cells #[.int .i64 0,.int .i64 0] 32 (0,0))) (hB:Below w.heap.size w wo) (hR:k≠0→∀a' w',Frm 188 [(2,.pointer (some ⟨w.heap.size+1,0,none⟩))] a'→w'.heap[w.heap.size+1]?=some (.cells #[.int .i64 (k:Nat),.int .i64 (j:Nat)] 32 (0,0))→Below w.heap.size w w'→Q .ret a' w') (hN:k=0→∀a',Frm 188 [(1,s_1),(2,.pointer (some ⟨w.heap.size+1,0,none⟩)),(35,s_35),(36,s_36),(37,s_37)] a'→Q .normal a' wo):∀ac,Frm 188 [(1,s_1),(2,.pointer (some ⟨w.heap.size+1,0,none⟩)),(35,s_35),(36,s_36),(37,s_37),(3,.int .i64 (j:Nat)),(4,s_4),(5,.int .i64 (k:Nat))] ac→Code.wp Tryd.prog c_mr_cret Q ac wo := by
  refine fO (frame_mr ?_)
  intros
  rename_i hq
  iterate 8 (obtain ⟨e,hq⟩ := hq; obtain rfl := sI e; clear e)
  clear hq
  conv=>arg 2; whnf
  have HR := Lib.hid hR
  have HN := Lib.hid hN
  have HB := Lib.hid hB
  clear hR hN hB
  have pf := hpf
  clear hpf
  have pf_0 := cv0 pf
  have pf_1 := cv1 pf
  have pf_f0 := free_heap pf 0
  have pf_f1 := free_heap pf 1
  have pf_l := lt_heap pf
  replace pf := Lib.hid pf
  by_cases hk:k=0
  · have q1:((k:Int) != 0)=false := by rw [hk]; rfl
    replace HN := Lib.hid (HN.out hk)
    clear hk
    go_wp2_with fail
    exact HN.out _ (by exact fR rfl rfl rfl)
  · have q1:((k:Int) != 0)=true := bne_iff_ne.2 (by omega)
    replace HR := Lib.hid (HR.out hk)
    clear hk
    go_wp2_with fail
    exact HR.out _ _ (id ⟨rfl,rfl,rfl,trivial⟩) (at2 pf.out) (below2 HB.out (by omega))
def c_mr_cinc := sp 99 1943 cF20
theorem mr_cinc_wp (hj:j≤300) (hN:∀a',Frm 188 [(1,s_1),(2,s_2),(35,s_35),(36,s_36),(37,.int .i64 (j+1:Nat))] a'→Q .normal a' wo):∀ac,Frm 188 [(1,s_1),(2,s_2),(35,s_35),(36,s_36),(37,.int .i64 (j:Nat))] ac→Code.wp Tryd.prog c_mr_cinc Q ac wo := by
  refine fO (frame_mr ?_)
  intros
  rename_i hq
  iterate 5 (obtain ⟨e,hq⟩ := hq; obtain rfl := sI e; clear e)
  clear hq
  conv=>arg 2; whnf
  replace hN := Lib.hid hN
  have hw:((j:Int)+1)=((j+1:Nat):Int) := by omega
  replace hw := Lib.hid hw
  go_wp2_with fail
  rw [hw.out]
  exact hN.out _ (by exact fR rfl rfl rfl)
def c_mr_cloop := sp 99 87 cF20
theorem mr_cloop_wp {wi:World} {S:Nat→Prop} (hcl:cl.length≤300) (hC:conRep.Sl w S (.slice A cl.length c) cl) (hS:∀b,S b→b<w.heap.size) (h0:wi.heap[w.heap.size]?=some (.cells #[.int .i64 sz,.slice A cl.length c,.slice B rl.length d] 25 (0,0))∧wi.heap[w.heap.size+1]?=some (.cells #[.int .i64 0,.int .i64 0] 32 (0,0))∧Below w.heap.size w wi)
    (hR:∀(k j:Nat),k≠0→consF sz none 0 cl=(k,j)→∀a' w',Frm 188 [(2,.pointer (some ⟨w.heap.size+1,0,none⟩))] a'→w'.heap[w.heap.size+1]?=some (.cells #[.int .i64 (k:Nat),.int .i64 (j:Nat)] 32 (0,0))→Below w.heap.size w w'→Q .ret a' w')
    (hX:(consF sz none 0 cl).1=0→∀a' wx,Frm 188 [(1,.pointer (some ⟨w.heap.size,0,none⟩)),(2,.pointer (some ⟨w.heap.size+1,0,none⟩))] a'→wx.heap[w.heap.size]?=some (.cells #[.int .i64 sz,.slice A cl.length c,.slice B rl.length d] 25 (0,0))∧wx.heap[w.heap.size+1]?=some (.cells #[.int .i64 0,.int .i64 0] 32 (0,0))∧Below w.heap.size w wx→Q (.exit 0) a' wx):∀ac,Frm 188 [(1,.pointer (some ⟨w.heap.size,0,none⟩)),(2,.pointer (some ⟨w.heap.size+1,0,none⟩)),(35,.slice A cl.length c),(36,.int .i64 (cl.length:Nat)),(37,.int .i64 (0:Nat))] ac→Code.wp Tryd.prog c_mr_cloop Q ac wi := by
  intro a0 hf0
  conv=>arg 2; whnf
  refine wp_loopR (fun k a' w'=>∃j:Nat,j+k=cl.length∧consF sz (prevOf cl j) j (cl.drop j)=consF sz none 0 cl∧w'.heap[w.heap.size]?=some (.cells #[.int .i64 sz,.slice A cl.length c,.slice B rl.length d] 25 (0,0))∧w'.heap[w.heap.size+1]?=some (.cells #[.int .i64 0,.int .i64 0] 32 (0,0))∧Below w.heap.size w w'∧Frm 188 [(1,.pointer (some ⟨w.heap.size,0,none⟩)),(2,.pointer (some ⟨w.heap.size+1,0,none⟩)),(35,.slice A cl.length c),(36,.int .i64 (cl.length:Nat)),(37,.int .i64 (j:Nat))] a') cl.length ⟨0,by omega,rfl,h0.1,h0.2.1,h0.2.2,hf0⟩ ?_
  rintro k a1 wr ⟨j,hk,hc,hp0,hpf,hB,hfr⟩
  refine wp_seq ?_
  refine mr_chead_wp (fun a2 h2=>?_) a1 hfr
  have h2d:Frm 188 [(1,.pointer (some ⟨w.heap.size,0,none⟩)),(2,.pointer (some ⟨w.heap.size+1,0,none⟩)),(35,.slice A cl.length c),(36,.int .i64 (cl.length:Nat)),(37,.int .i64 (j:Nat))] a2 := have h := h2; (h.pick [0,1,2,3,4])
  refine wp_seq ?_
  by_cases hjl:j<cl.length
  case neg =>
    refine wp_cond_false ((h2.eval (k := 38) (v := .bool (decide (j<cl.length))) (by simp)).trans (by rw [decide_eq_false hjl])) ?_
    have hz:(consF sz none 0 cl).1=0 := by rw [← hc,List.drop_eq_nil_of_le (by omega)]; rfl
    have h := h2
    exact wp_exit (hX hz a2 wr (h.pick [0,1]) ⟨hp0,hpf,hB⟩)
  refine wp_cond_true ((h2.eval (k := 38) (v := .bool (decide (j<cl.length))) (by simp)).trans (by rw [decide_eq_true hjl])) (wp_skip ?_)
  have hC2 := hC.keep (w' := wr) (S' := S) (fun b hb=>hB.block b (hS b hb)) (fun _ h=>h)
  rw [consF_step hjl] at hc
  obtain ⟨b,o,hA,hSb,e0,e1,hn⟩ := con_at hC2 hjl
  subst hA
  have hbl := hS b hSb
  have hbz := hB.size
  obtain ⟨⟨nm,v⟩,hv⟩:∃x,cl[j]=x := ⟨_,rfl⟩
  rw [hv] at e0 e1 hn hc
  simp only at e0 e1 hn
  have hpv:∀p,prevOf cl j=some p→∃i,j=i+1∧wr.cell? ⟨b,o+i * 2,none⟩=some (.string p.nm) := by
    intro p hp
    cases j with
    | zero=>cases hp
    | succ i =>
      obtain ⟨b2,o2,hA2,_,f0,_⟩ := con_at hC2 (j := i) (by omega)
      simp only [Option.some.injEq,Addr.mk.injEq] at hA2
      obtain ⟨rfl,rfl,_⟩ := hA2
      refine ⟨i,rfl,?_⟩
      have:cl[i]?=some p := hp
      rw [List.getElem?_eq_getElem (by omega)] at this
      rw [← Option.some.inj this]
      exact f0
  have hpv0:prevOf cl j=none→j=0 := by
    intro e
    cases j with
    | zero=>rfl
    | succ i =>
      have h3:cl[i]?=none := e
      rw [List.getElem?_eq_getElem (by omega)] at h3
      cases h3
  refine wp_seq ?_
  refine wp_block ?_
  refine wp_seq ?_
  refine mr_cbox_wp hjl (by omega) e0 e1 (fun a3 h3=>?_) a2 h2d
  refine wp_seq ?_
  refine mr_c0_wp (fun a4 h4=>?_) a3 h3
  refine wp_seq ?_
  have lw:w.heap.size<wr.heap.size := lt_heap hp0
  have lf:w.heap.size+1<wr.heap.size := lt_heap hpf
  refine mr_ccode_wp (sz := sz) (pv := prevOf cl j) hjl hn (by simp; omega) (heap_old lw hp0) (heap_old lf hpf) (heap_at rfl) hcl (fun p hp=>?_) hpv0 (fun a5 w5 h5 e5=>?_) a4 h4
  · obtain ⟨i,h1,h2⟩ := hpv p hp
    exact ⟨i,h1,(cell_keep (heap_old (by omega) rfl) _).trans h2⟩
  have qf:w5.heap[w.heap.size+1]?=some (.cells #[.int .i64 0,.int .i64 0] 32 (0,0)) := by rw [e5.1]; exact heap_old lf hpf
  have qp:w5.heap[w.heap.size]?=some (.cells #[.int .i64 sz,.slice (some ⟨b,o,none⟩) cl.length c,.slice B rl.length d] 25 (0,0)) := by rw [e5.1]; exact heap_old lw hp0
  have hB5:Below w.heap.size w w5 := (hB.alloc (by omega) _).trans (e5.2.mono (by simp; omega))
  refine mr_cret_wp qf hB5 (fun hk0 a6 w6 h6 e6 hb6=>?_) (fun hk0 a6 h6=>?_) a5 h5
  · refine hR _ j hk0 ?_ a6 w6 h6 e6 hb6
    rw [← hc,if_neg hk0]
  · refine mr_cinc_wp (by omega) (fun a7 h7=>?_) a6 h6
    rw [if_pos hk0] at hc
    exact ⟨cl.length - (j+1),by omega,j+1,by omega,hc,qp,qf,hB5,h7⟩
end

end Go.Proofs.YthfokmjpbnfihaaDoor
