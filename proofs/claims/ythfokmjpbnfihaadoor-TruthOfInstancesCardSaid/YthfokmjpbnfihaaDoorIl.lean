/- Lemmas. -/
import Derived.Test.YthfokmjpbnfihaaDoorIk
import Derived.Test.YthfokmjpbnfihaaDoorIg
import Derived.Test.YthfokmjpbnfihaaDoorIc
namespace Go.Proofs.YthfokmjpbnfihaaDoor
open Go Go.RowKit
set_option linter.unusedSimpArgs false
set_option linter.unusedVariables false
noncomputable section
set_option maxRecDepth 100000
set_option maxHeartbeats 32000000

theorem validateMd_any (m:Md) (cells:List Value) (w:World) (S:Nat→Prop) (h:m.In w S cells) (hS:∀b,S b→b<w.heap.size) :
    Calls Tryd.prog 21 #[.agg cells.toArray] w (MdAt m w) := by
  obtain ⟨A,c,B,d,rfl,hcl,hrl,hC,hR⟩ := Md.shape h
  obtain ⟨sz,cl,rl⟩ := m
  simp only at hcl hrl hC hR
  have HE:Hid (∀c i:Nat,mdFault ⟨sz,cl,rl⟩=(c,i)→∀W:World,Below w.heap.size w W→MdAt ⟨sz,cl,rl⟩ w (.returned (.agg #[.int .i64 (c:Nat),.int .i64 (i:Nat)])) W) := Lib.hid (fun c i e W hb=>by unfold MdAt; rw [e]; exact ⟨rfl,hb⟩)
  unfold maxLen at hcl hrl
  clear h
  have HC := Lib.hid hC
  have HR := Lib.hid hR
  have HS := Lib.hid hS
  clear hC hR hS
  by_cases h1:sz<1∨6<sz
  · have hr:mdFault ⟨sz,cl,rl⟩=(3,0) := by rw [mdFault_mk,if_pos h1]
    have h2:sz<1∨(¬ sz<1∧6<sz) := by omega
    clear h1
    have HR := Lib.hid hr
    clear hr
    rcases h2 with q1 | ⟨q1,q2⟩
    all_goals
      go_enter Tryd.func21,Tryd.ntmps21
      go_wp2_with fail
      refine bodyPost_ret (v := .agg #[.int .i64 3,.int .i64 0]) (by simp [results,Tryd.results21,go_sem]) rfl ?_
      exact HE.out 3 0 HR.out _ (by go_grown)
  have hs1:¬ sz<1 := by omega
  have hs6:¬ 6<sz := by omega
  by_cases h2:300<cl.length∨300<rl.length
  · have hr:mdFault ⟨sz,cl,rl⟩=(2,0) := by rw [mdFault_mk,if_neg h1,if_pos h2]
    have h3:(300:Int)<(cl.length:Int)∨(¬ (300:Int)<(cl.length:Int)∧(300:Int)<(rl.length:Int)) := by omega
    clear h1 h2
    have HR := Lib.hid hr
    clear hr
    rcases h3 with q1 | ⟨q1,q2⟩
    all_goals
      go_enter Tryd.func21,Tryd.ntmps21
      go_wp2_with fail
      refine bodyPost_ret (v := .agg #[.int .i64 2,.int .i64 0]) (by simp [results,Tryd.results21,go_sem]) rfl ?_
      exact HE.out 2 0 HR.out _ (by go_grown)
  have q3:¬ (300:Int)<(cl.length:Int) := by omega
  have q4:¬ (300:Int)<(rl.length:Int) := by omega
  have hbad:(consF sz none 0 cl).1≠0→mdFault ⟨sz,cl,rl⟩=consF sz none 0 cl := fun h=>by rw [mdFault_mk,if_neg h1,if_neg h2,if_neg h]
  have hgo:(consF sz none 0 cl).1=0→mdFault ⟨sz,cl,rl⟩=relsF sz none 0 rl := fun h=>by rw [mdFault_mk,if_neg h1,if_neg h2,if_pos h]
  clear h1 h2
  have HBAD := Lib.hid hbad
  have HGO := Lib.hid hgo
  clear hbad hgo
  go_enter Tryd.func21,Tryd.ntmps21
  go_upto_region 5 with (fail)
  refine gen_last (fun W=>W.heap[w.heap.size]? = some (.cells #[.int .i64 sz,.slice A cl.length c,.slice B rl.length d] 25 (0,0))∧W.heap[w.heap.size+1]? = some (.cells #[.int .i64 0,.int .i64 0] 32 (0,0))∧Below w.heap.size w W∧w.heap.size+2≤W.heap.size) ?_ ?_
  · exact ⟨heap_old (by simp) (heap_at rfl),heap_at (by simp),by go_grown,by simp⟩
  rintro w1 ⟨p0,pf,hB,z1⟩
  have HB := Lib.hid hB
  clear hB
  have p0_0 := cv0 p0
  have p0_1 := cv1 p0
  have p0_2 := cv2 p0
  have p0_l := lt_heap p0
  have P0 := Lib.hid p0
  clear p0
  have pf_0 := cv0 pf
  have pf_1 := cv1 pf
  have pf_f0 := free_heap pf 0
  have pf_f1 := free_heap pf 1
  have pf_l := lt_heap pf
  have PF := Lib.hid pf
  clear pf
  go_wp2_with fail
  go_loopg [36] cl.length (fun k v36 wr=>∃j:Nat,v36=.int .i64 (j:Nat)∧j+k=cl.length∧consF sz (prevOf cl j) j (cl.drop j)=consF sz none 0 cl∧wr.heap[w.heap.size]? = some (.cells #[.int .i64 sz,.slice A cl.length c,.slice B rl.length d] 25 (0,0))∧wr.heap[w.heap.size+1]? = some (.cells #[.int .i64 0,.int .i64 0] 32 (0,0))∧Below w.heap.size w wr)
  case atStart=>exact ⟨0,rfl,by omega,rfl,P0.out,PF.out,HB.out⟩
  case round =>
    clear p0_0 p0_1 p0_2 p0_l pf_0 pf_1 pf_f0 pf_f1 pf_l P0 PF HB z1
    obtain ⟨j,rfl,hj,hc,p0,pf,hB⟩ := hrel
    have zr:w.heap.size+2≤wr.heap.size := by have := lt_heap pf; omega
    have HC2 := Lib.hid (HC.out.keep (w' := wr) (S' := S) (fun b hb=>hB.block b (HS.out b hb)) (fun _ h=>h))
    have HB := Lib.hid hB
    clear hB
    have p0_0 := cv0 p0
    have p0_1 := cv1 p0
    have p0_2 := cv2 p0
    have p0_l := lt_heap p0
    have P0 := Lib.hid p0
    clear p0
    have pf_0 := cv0 pf
    have pf_1 := cv1 pf
    have pf_f0 := free_heap pf 0
    have pf_f1 := free_heap pf 1
    have pf_l := lt_heap pf
    have PF := Lib.hid pf
    clear pf
    by_cases hjl:j<cl.length
    case neg =>
      have q1:¬ (j:Int)<(cl.length:Int) := by omega
      have hz:(consF sz none 0 cl).1=0 := by
        rw [← hc,List.drop_eq_nil_of_le (by omega)]; rfl
      have hrels := HGO.out hz
      clear hc hz
      have HRELS := Lib.hid hrels
      clear hrels
      clear HC2 HGO HBAD HC
      go_wp2_with fail
      go_loopg [80] rl.length (fun k v80 wr=>∃j:Nat,v80=.int .i64 (j:Nat)∧j+k=rl.length∧relsF sz (prevOf rl j) j (rl.drop j)=relsF sz none 0 rl∧wr.heap[w.heap.size]? = some (.cells #[.int .i64 sz,.slice A cl.length c,.slice B rl.length d] 25 (0,0))∧wr.heap[w.heap.size+1]? = some (.cells #[.int .i64 0,.int .i64 0] 32 (0,0))∧Below w.heap.size w wr)
      case atStart=>exact ⟨0,rfl,by omega,rfl,P0.out,PF.out,HB.out⟩
      case round =>
        clear p0_0 p0_1 p0_2 p0_l pf_0 pf_1 pf_f0 pf_f1 pf_l P0 PF HB zr
        clear hjl hj q1
        obtain ⟨j,rfl,hj,hc,p0,pf,hB⟩ := hrel
        have zr:w.heap.size+2≤wr.heap.size := by have := lt_heap pf; omega
        have HR2 := Lib.hid (HR.out.keep (w' := wr) (S' := S) (fun b hb=>hB.block b (HS.out b hb)) (fun _ h=>h))
        have HB := Lib.hid hB
        clear hB
        have p0_0 := cv0 p0
        have p0_1 := cv1 p0
        have p0_2 := cv2 p0
        have p0_l := lt_heap p0
        have P0 := Lib.hid p0
        clear p0
        have pf_0 := cv0 pf
        have pf_1 := cv1 pf
        have pf_f0 := free_heap pf 0
        have pf_f1 := free_heap pf 1
        have pf_l := lt_heap pf
        have PF := Lib.hid pf
        clear pf
        by_cases hjl:j<rl.length
        case neg =>
          have q1:¬ (j:Int)<(rl.length:Int) := by omega
          have hr := HRELS.out.trans hc.symm
          rw [List.drop_eq_nil_of_le (by omega)] at hr
          have hr:mdFault ⟨sz,cl,rl⟩=(0,0) := hr
          clear hc
          have HR := Lib.hid hr
          clear hr
          go_wp2_with fail
          refine bodyPost_ret (v := .agg #[.int .i64 0,.int .i64 0]) (by simp [results,Tryd.results21,go_sem,pf_0,pf_1,pf_l]) rfl ?_
          exact HE.out 0 0 HR.out _ (below2 HB.out (by omega))
        rw [relsF_step hjl] at hc
        obtain ⟨b,o,T,t,hA,hSb,e0,e1,e2,hn,htl,htp⟩ := rel_at HR2.out hjl
        subst hA
        have hbl := HS.out b hSb
        have hbl2:b<wr.heap.size := by omega
        have hbl3:b<wr.heap.size+1 := by omega
        have hbl4:b<wr.heap.size+1+1 := by omega
        obtain ⟨⟨nm,ar,tp⟩,hv⟩:∃x,rl[j]=x := ⟨_,rfl⟩
        rw [hv] at e0 e1 e2 hn hc htl htp
        simp only at e0 e1 e2 hn htl htp
        unfold maxLen at htl
        have hnm := fun W:World=>name_any nm W hn
        have q1:(j:Int)<(rl.length:Int) := by omega
        have q0:(0:Int)≤(j:Int) := by omega
        have hpv:∀p,prevOf rl j=some p→∃i T' t',j=i+1∧wr.cell? ⟨b,o+i * 3,none⟩=some (.string p.nm)∧wr.cell? ⟨b,o+i * 3+1,none⟩=some (.int .i64 p.ar)∧wr.cell? ⟨b,o+i * 3+2,none⟩=some (.slice T' p.tp.length t') := by
          intro p hp
          cases j with
          | zero=>cases hp
          | succ i =>
            obtain ⟨b2,o2,T',t',hA2,_,f0,f1,f2,_⟩ := rel_at HR2.out (j := i) (by omega)
            simp only [Option.some.injEq,Addr.mk.injEq] at hA2
            obtain ⟨rfl,rfl,_⟩ := hA2
            refine ⟨i,T',t',rfl,?_⟩
            have:rl[i]? = some p := hp
            rw [List.getElem?_eq_getElem (by omega)] at this
            rw [← Option.some.inj this]
            exact ⟨f0,f1,f2⟩
        obtain ⟨pv,hpe⟩:∃pv,prevOf rl j=pv := ⟨_,rfl⟩
        rw [hpe] at hc hpv
        have hpv0:pv=none→j=0 := by
          intro e
          rw [e] at hpe
          cases j with
          | zero=>rfl
          | succ i =>
            have h3:rl[i]? = none := hpe
            rw [List.getElem?_eq_getElem (by omega)] at h3
            cases h3
        have hcode:∀c,relCode sz pv ⟨nm,ar,tp⟩=c→c≠0→mdFault ⟨sz,cl,rl⟩=(c,j) := fun c e hne=>by
          have h3 := hc
          rw [e,if_neg hne] at h3
          exact HRELS.out.trans h3.symm
        have hnext:relCode sz pv ⟨nm,ar,tp⟩=0→relsF sz (prevOf rl (j+1)) (j+1) (rl.drop (j+1))=relsF sz none 0 rl := fun e=>by
          have h3 := hc
          rwa [e,if_pos rfl] at h3
        clear hc hv hpe
        have HNM := Lib.hid hnm
        have HPV := Lib.hid hpv
        have HPV0 := Lib.hid hpv0
        have HCODE := Lib.hid hcode
        have HNEXT := Lib.hid hnext
        have HTP := Lib.hid htp
        clear hnm hpv hpv0 hcode hnext htp
        go_upto_region 20 with (fail)
        refine gen_last (fun W=>W.heap[w.heap.size]? = some (.cells #[.int .i64 sz,.slice A cl.length c,.slice (some ⟨b,o,none⟩) rl.length d] 25 (0,0))∧W.heap[w.heap.size+1]? = some (.cells #[.int .i64 0,.int .i64 0] 32 (0,0))∧W.heap[wr.heap.size]? = some (.cells #[.int .i64 (j:Nat)] 3 (0,0))∧W.heap[wr.heap.size+1]? = some (.cells #[.string nm,.int .i64 ar,.slice T tp.length t] 59 (0,0))∧Below w.heap.size w W∧wr.heap.size+2≤W.heap.size∧(∀k,k<wr.heap.size→W.heap[k]? = wr.heap[k]?)) ?_ ?_
        · exact ⟨heap_old (by simp; omega) (heap_old p0_l P0.out),heap_old (by simp; omega) (heap_old pf_l PF.out),heap_old (by simp) (heap_at rfl),heap_at (by simp),(HB.out.alloc (by omega) _).alloc (by simp; omega) _,by simp,fun k hk=>heap_old (by simp; omega) (heap_old hk rfl)⟩
        rintro wo ⟨p0,pf,pi,px,hB,zo,hkw⟩
        have HPV2 := Lib.hid (fun (p:Rel) (hp:pv=some p)=>show ∃i T' t',j=i+1∧wo.cell? ⟨b,o+i * 3,none⟩=some (.string p.nm)∧wo.cell? ⟨b,o+i * 3+1,none⟩=some (.int .i64 p.ar)∧wo.cell? ⟨b,o+i * 3+2,none⟩=some (.slice T' p.tp.length t') from by
          obtain ⟨i,T',t',h1,h2,h3,h4⟩ := HPV.out p hp
          exact ⟨i,T',t',h1,(cell_keep (hkw b hbl2) _).trans h2,(cell_keep (hkw b hbl2) _).trans h3,(cell_keep (hkw b hbl2) _).trans h4⟩)
        have HTP2 := Lib.hid (HTP.out.keep (w' := wo) (S' := S) (fun b hb=>hkw b (by have := HS.out b hb; omega)) (fun _ h=>h))
        clear p0_0 p0_1 p0_2 p0_l pf_0 pf_1 pf_f0 pf_f1 pf_l e0 e1 e2 P0 PF HB HR2 HPV HTP hkw
        generalize wr.heap.size=E at *
        have HB := Lib.hid hB
        clear hB
        have p0_0 := cv0 p0
        have p0_1 := cv1 p0
        have p0_2 := cv2 p0
        have p0_l := lt_heap p0
        have P0 := Lib.hid p0
        clear p0
        have pf_0 := cv0 pf
        have pf_1 := cv1 pf
        have pf_f0 := free_heap pf 0
        have pf_f1 := free_heap pf 1
        have pf_l := lt_heap pf
        have PF := Lib.hid pf
        clear pf
        have pi_0 := cv0 pi
        have pi_l := lt_heap pi
        have PI := Lib.hid pi
        clear pi
        have px_0 := cv0 px
        have px_1 := cv1 px
        have px_2 := cv2 px
        have px_l := lt_heap px
        have PX := Lib.hid px
        clear px
        go_wp2_with fail
        (with_reducible refine (HNM.out _).mono ?_)
        rintro e wz ⟨rfl,rfl⟩
        cases hok:okName nm with
        | false =>
          have hr := HCODE.out 10 (by unfold relCode; rw [if_pos hok]) (by decide)
          have HR := Lib.hid hr
          clear hr
          clear hok
          have hcl := bad2_any E 10 (j:Nat) wo pi_0
          have HCL := Lib.hid hcl
          clear hcl
          go_upto_region 21 with (fail)
          go_cut [] (fun wc2=>wc2.heap[w.heap.size+1]? = some (.cells #[.int .i64 10,.int .i64 (j:Nat)] 32 (0,0))∧Below w.heap.size w wc2)
          case first =>
            go_wp2_with fail
            (with_reducible refine HCL.out.mono ?_)
            rintro e wb ⟨rfl,hwb⟩
            have qf := (hwb.block (w.heap.size+1) pf_l).trans PF.out
            have hBb := HB.out.trans (hwb.mono (by omega))
            have HBB := Lib.hid hBb
            clear hBb
            have qf_0 := cv0 qf
            have qf_1 := cv1 qf
            have qf_f0 := free_heap qf 0
            have qf_f1 := free_heap qf 1
            have qf_l := lt_heap qf
            have QF := Lib.hid qf
            clear qf
            clear pf_0 pf_1 pf_f0 pf_f1 pf_l
            go_wp2_with fail
            go_meet
            exact ⟨at2 QF.out,below2 HBB.out (by omega)⟩
          case rest =>
          obtain ⟨k1,kB⟩ := hcut
          rename World=>wret
          have KB := Lib.hid kB
          clear kB
          have k1_0 := cv0 k1
          have k1_1 := cv1 k1
          have k1_l := lt_heap k1
          have K1 := Lib.hid k1
          clear k1
          go_step
          refine wp_ret ?_
          refine bodyPost_ret (v := .agg #[.int .i64 10,.int .i64 (j:Nat)]) ?hres ?hd ?_
          case hd=>rfl
          case hres=>simp [results,Tryd.results21,go_sem,k1_0,k1_1,k1_l]
          exact HE.out 10 j HR.out _ KB.out
        | true =>
        have HOK := Lib.hid hok
        clear hok HNM
        by_cases har:ar<0∨3<ar
        · have hr := HCODE.out 3 (by unfold relCode; rw [if_neg (by rw [HOK.out]; decide),if_pos har]) (by decide)
          have ha2:ar<0∨(¬ ar<0∧3<ar) := by omega
          clear har
          have HR := Lib.hid hr
          clear hr
          rcases ha2 with q5 | ⟨q5,q6⟩
          · skip
            have hcl := bad2_any E 3 (j:Nat) wo pi_0
            have HCL := Lib.hid hcl
            clear hcl
            go_upto_region 23 with (fail)
            go_cut [] (fun wc2=>wc2.heap[w.heap.size+1]? = some (.cells #[.int .i64 3,.int .i64 (j:Nat)] 32 (0,0))∧Below w.heap.size w wc2)
            case first =>
              go_wp2_with fail
              (with_reducible refine HCL.out.mono ?_)
              rintro e wb ⟨rfl,hwb⟩
              have qf := (hwb.block (w.heap.size+1) pf_l).trans PF.out
              have hBb := HB.out.trans (hwb.mono (by omega))
              have HBB := Lib.hid hBb
              clear hBb
              have qf_0 := cv0 qf
              have qf_1 := cv1 qf
              have qf_f0 := free_heap qf 0
              have qf_f1 := free_heap qf 1
              have qf_l := lt_heap qf
              have QF := Lib.hid qf
              clear qf
              clear pf_0 pf_1 pf_f0 pf_f1 pf_l
              go_wp2_with fail
              go_meet
              exact ⟨at2 QF.out,below2 HBB.out (by omega)⟩
            case rest =>
            obtain ⟨k1,kB⟩ := hcut
            rename World=>wret
            have KB := Lib.hid kB
            clear kB
            have k1_0 := cv0 k1
            have k1_1 := cv1 k1
            have k1_l := lt_heap k1
            have K1 := Lib.hid k1
            clear k1
            go_step
            refine wp_ret ?_
            refine bodyPost_ret (v := .agg #[.int .i64 3,.int .i64 (j:Nat)]) ?hres ?hd ?_
            case hd=>rfl
            case hres=>simp [results,Tryd.results21,go_sem,k1_0,k1_1,k1_l]
            exact HE.out 3 j HR.out _ KB.out
          · skip
            have hcl := bad2_any E 3 (j:Nat) wo pi_0
            have HCL := Lib.hid hcl
            clear hcl
            go_upto_region 23 with (fail)
            go_cut [] (fun wc2=>wc2.heap[w.heap.size+1]? = some (.cells #[.int .i64 3,.int .i64 (j:Nat)] 32 (0,0))∧Below w.heap.size w wc2)
            case first =>
              go_wp2_with fail
              (with_reducible refine HCL.out.mono ?_)
              rintro e wb ⟨rfl,hwb⟩
              have qf := (hwb.block (w.heap.size+1) pf_l).trans PF.out
              have hBb := HB.out.trans (hwb.mono (by omega))
              have HBB := Lib.hid hBb
              clear hBb
              have qf_0 := cv0 qf
              have qf_1 := cv1 qf
              have qf_f0 := free_heap qf 0
              have qf_f1 := free_heap qf 1
              have qf_l := lt_heap qf
              have QF := Lib.hid qf
              clear qf
              clear pf_0 pf_1 pf_f0 pf_f1 pf_l
              go_wp2_with fail
              go_meet
              exact ⟨at2 QF.out,below2 HBB.out (by omega)⟩
            case rest =>
            obtain ⟨k1,kB⟩ := hcut
            rename World=>wret
            have KB := Lib.hid kB
            clear kB
            have k1_0 := cv0 k1
            have k1_1 := cv1 k1
            have k1_l := lt_heap k1
            have K1 := Lib.hid k1
            clear k1
            go_step
            refine wp_ret ?_
            refine bodyPost_ret (v := .agg #[.int .i64 3,.int .i64 (j:Nat)]) ?hres ?hd ?_
            case hd=>rfl
            case hres=>simp [results,Tryd.results21,go_sem,k1_0,k1_1,k1_l]
            exact HE.out 3 j HR.out _ KB.out
        have ha0:¬ ar<0 := by omega
        have ha3:¬ 3<ar := by omega
        have HAR := Lib.hid har
        clear har
        have hbo:b<wo.heap.size := by omega
        go_upto_region 24 with (fail)
        go_cut [114] (fun s114 wx=>∃bb:Bool,s114=.bool bb∧bb=(pv.any fun p=>decide (0≤cmpR p ⟨nm,ar,tp⟩))∧wx.heap[w.heap.size]? = some (.cells #[.int .i64 sz,.slice A cl.length c,.slice (some ⟨b,o,none⟩) rl.length d] 25 (0,0))∧wx.heap[w.heap.size+1]? = some (.cells #[.int .i64 0,.int .i64 0] 32 (0,0))∧wx.heap[E]? = some (.cells #[.int .i64 (j:Nat)] 3 (0,0))∧wx.heap[E+1]? = some (.cells #[.string nm,.int .i64 ar,.slice T tp.length t] 59 (0,0))∧Below w.heap.size w wx∧E+2≤wx.heap.size∧(∀k,k<wo.heap.size→wx.heap[k]? = wo.heap[k]?))
        case first =>
          cases pv with
          | none =>
            have t1:decide ((0:Int)<(j:Int))=false := decide_eq_false (by have := HPV0.out rfl; omega)
            have t1n:decide (0<j)=false := decide_eq_false (by have := HPV0.out rfl; omega)
            go_big_quiet (fail)
            go_wp2_with fail
            go_meet
            exact ⟨false,rfl,rfl,P0.out,PF.out,PI.out,PX.out,(below_nq HB.out _),zo,fun _ _=>rfl⟩
          | some p =>
            obtain ⟨i,T',t',rfl,f0,f1,f2⟩ := HPV2.out p rfl
            obtain ⟨pn,pa,pt⟩ := p
            simp only at f0 f1 f2
            have t1:decide ((0:Int)<((i+1:Nat):Int))=true := decide_eq_true (by omega)
            have t1n:decide (0<i+1)=true := decide_eq_true (by omega)
            have hj1:((i+1:Nat):Int) - 1=(i:Int) := by omega
            have hw1:IntKind.i64.wrap (i:Int)=(i:Int) := wrap_ok _ (by omega) (by omega)
            have u0:(0:Int)≤(i:Int) := by omega
            have u1:(i:Int)<(rl.length:Int) := by omega
            have hcr := fun W:World=>cmpR_any ⟨pn,pa,pt⟩ ⟨nm,ar,tp⟩ (.slice T' pt.length t') (.slice T tp.length t) W rfl rfl
            obtain ⟨z,hz⟩:∃z,cmpR ⟨pn,pa,pt⟩ ⟨nm,ar,tp⟩=z := ⟨_,rfl⟩
            rw [hz] at hcr
            simp only at hcr
            have hany:decide (0≤z)=((some (⟨pn,pa,pt⟩:Rel)).any fun p=>decide (0≤cmpR p ⟨nm,ar,tp⟩)) := by
              simp only [Option.any_some,hz]
            have HANY := Lib.hid hany
            have E0:wo.cell? ⟨E,0,none⟩=_ := pi_0
            clear hany hz
            have HCR := Lib.hid hcr
            clear hcr
            go_region_held3 (fun w'=>w'.cell? ⟨E,0,none⟩=some (.int .i64 ((i+1:Nat):Int))∧w'.cell? ⟨E+1,0,none⟩=some (.string nm)∧w'.cell? ⟨E+1,1,none⟩=some (.int .i64 ar)∧w'.cell? ⟨E+1,2,none⟩=some (.slice T tp.length t)∧w'.cell? ⟨w.heap.size,2,none⟩=some (.slice (some ⟨b,o,none⟩) rl.length d)∧w'.cell? ⟨b,o+i * 3,none⟩=some (.string pn)∧w'.cell? ⟨b,o+i * 3+1,none⟩=some (.int .i64 pa)∧w'.cell? ⟨b,o+i * 3+2,none⟩=some (.slice T' pt.length t'))
              ((first | (go_keep; done) | (go_split_ands; (repeat' apply And.intro) <;> (refine (kc _ _ (by omega)).trans ?_; assumption))))
              (((with_reducible refine (HCR.out _).mono ?_); rintro e w6 ⟨rfl,hw6⟩; have kc:∀k q,k<wo.heap.size→w6.cell? ⟨k,q,none⟩=_ := (fun k q h=>hw6.cell (p := ⟨k,q,none⟩) (by simp; omega)); have z6:wo.heap.size≤w6.heap.size := (by have := hw6.size; simpa using this); have HW6 := Lib.hid hw6; clear hw6))
            all_goals go_wp2_with fail
            all_goals go_meet
            all_goals
              have hkk:∀k,k<wo.heap.size→w6.heap[k]? = wo.heap[k]? := fun k hk=>(HW6.out.block k (by simp; omega)).trans (by first | exact heap_drew rfl | rfl)
              exact ⟨decide (0≤z),rfl,HANY.out,(hkk _ p0_l).trans P0.out,(hkk _ pf_l).trans PF.out,(hkk _ pi_l).trans PI.out,(hkk _ px_l).trans PX.out,(HB.out.drew).trans (HW6.out.mono (by simp; omega)),by omega,hkk⟩
        case rest =>
        obtain ⟨bb,rfl,hbb,p0,pf,pi,px,hB,zx,hkx⟩ := hcut
        rename World=>wx
        have HTP3 := Lib.hid (HTP2.out.keep (w' := wx) (S' := S) (fun b hb=>hkx b (by have := HS.out b hb; omega)) (fun _ h=>h))
        clear p0_0 p0_1 p0_2 p0_l pf_0 pf_1 pf_f0 pf_f1 pf_l pi_0 pi_l px_0 px_1 px_2 px_l P0 PF HB PI PX
        clear hbo HPV0 HPV2 HTP2 hkx
        have HBB := Lib.hid hbb
        clear hbb
        have HB := Lib.hid hB
        clear hB
        have p0_0 := cv0 p0
        have p0_1 := cv1 p0
        have p0_2 := cv2 p0
        have p0_l := lt_heap p0
        have P0 := Lib.hid p0
        clear p0
        have pf_0 := cv0 pf
        have pf_1 := cv1 pf
        have pf_f0 := free_heap pf 0
        have pf_f1 := free_heap pf 1
        have pf_l := lt_heap pf
        have PF := Lib.hid pf
        clear pf
        have pi_0 := cv0 pi
        have pi_l := lt_heap pi
        have PI := Lib.hid pi
        clear pi
        have px_0 := cv0 px
        have px_1 := cv1 px
        have px_2 := cv2 px
        have px_l := lt_heap px
        have PX := Lib.hid px
        clear px
        cases bb with
        | true =>
          have hr := HCODE.out 13 (by unfold relCode; rw [if_neg (by rw [HOK.out]; decide),if_neg HAR.out,if_pos HBB.out.symm]) (by decide)
          have HR := Lib.hid hr
          clear hr
          have hcl := bad2_any E 13 (j:Nat) wx pi_0
          have HCL := Lib.hid hcl
          clear hcl
          go_upto_region 25 with (fail)
          go_cut [] (fun wc2=>wc2.heap[w.heap.size+1]? = some (.cells #[.int .i64 13,.int .i64 (j:Nat)] 32 (0,0))∧Below w.heap.size w wc2)
          case first =>
            go_wp2_with fail
            (with_reducible refine HCL.out.mono ?_)
            rintro e wb ⟨rfl,hwb⟩
            have qf := (hwb.block (w.heap.size+1) pf_l).trans PF.out
            have hBb := HB.out.trans (hwb.mono (by omega))
            have HBB := Lib.hid hBb
            clear hBb
            have qf_0 := cv0 qf
            have qf_1 := cv1 qf
            have qf_f0 := free_heap qf 0
            have qf_f1 := free_heap qf 1
            have qf_l := lt_heap qf
            have QF := Lib.hid qf
            clear qf
            clear pf_0 pf_1 pf_f0 pf_f1 pf_l
            go_wp2_with fail
            go_meet
            exact ⟨at2 QF.out,below2 HBB.out (by omega)⟩
          case rest =>
          obtain ⟨k1,kB⟩ := hcut
          rename World=>wret
          have KB := Lib.hid kB
          clear kB
          have k1_0 := cv0 k1
          have k1_1 := cv1 k1
          have k1_l := lt_heap k1
          have K1 := Lib.hid k1
          clear k1
          go_step
          refine wp_ret ?_
          refine bodyPost_ret (v := .agg #[.int .i64 13,.int .i64 (j:Nat)]) ?hres ?hd ?_
          case hd=>rfl
          case hres=>simp [results,Tryd.results21,go_sem,k1_0,k1_1,k1_l]
          exact HE.out 13 j HR.out _ KB.out
        | false =>
        have htc:relCode sz pv ⟨nm,ar,tp⟩=tupsF sz ar none tp := by
          unfold relCode
          rw [if_neg (by rw [HOK.out]; decide),if_neg HAR.out,if_neg (by rw [← HBB.out]; decide)]
        rw [htc] at HCODE HNEXT
        clear htc HOK HAR HBB
        go_upto_region 26 with (fail)
        go_wp2_with fail
        go_loopg [120] tp.length (fun k v120 wt=>∃jt:Nat,v120=.int .i64 (jt:Nat)∧jt+k=tp.length∧tupsF sz ar (prevOf tp jt) (tp.drop jt)=tupsF sz ar none tp∧wt.heap[w.heap.size]? = some (.cells #[.int .i64 sz,.slice A cl.length c,.slice (some ⟨b,o,none⟩) rl.length d] 25 (0,0))∧wt.heap[w.heap.size+1]? = some (.cells #[.int .i64 0,.int .i64 0] 32 (0,0))∧wt.heap[E]? = some (.cells #[.int .i64 (j:Nat)] 3 (0,0))∧wt.heap[E+1]? = some (.cells #[.string nm,.int .i64 ar,.slice T tp.length t] 59 (0,0))∧Below w.heap.size w wt∧E+2≤wt.heap.size∧(∀k,k<wx.heap.size→wt.heap[k]? = wx.heap[k]?))
        case atStart=>exact ⟨0,rfl,by omega,rfl,P0.out,PF.out,PI.out,PX.out,HB.out,zx,fun _ _=>rfl⟩
        case round =>
          clear p0_0 p0_1 p0_2 p0_l pf_0 pf_1 pf_f0 pf_f1 pf_l pi_0 pi_l px_0 px_1 px_2 px_l P0 PF HB PI PX
          obtain ⟨jt,rfl,hjt,hct,p0,pf,pi,px,hB,zt,hkt⟩ := hrel
          rename World=>wt
          have hwxs:wx.heap.size≤wt.heap.size := by
            rcases Nat.lt_or_ge wt.heap.size wx.heap.size with h | h
            · have h2 := hkt wt.heap.size h
              rw [Array.getElem?_eq_none (Nat.le_refl _),Array.getElem?_eq_getElem h] at h2
              cases h2
            · exact h
          have HTP4 := Lib.hid (HTP3.out.keep (w' := wt) (S' := S) (fun b hb=>hkt b (by have := HS.out b hb; omega)) (fun _ h=>h))
          have HKT := Lib.hid hkt
          clear hkt
          have HB := Lib.hid hB
          clear hB
          have p0_0 := cv0 p0
          have p0_1 := cv1 p0
          have p0_2 := cv2 p0
          have p0_l := lt_heap p0
          have P0 := Lib.hid p0
          clear p0
          have pf_0 := cv0 pf
          have pf_1 := cv1 pf
          have pf_f0 := free_heap pf 0
          have pf_f1 := free_heap pf 1
          have pf_l := lt_heap pf
          have PF := Lib.hid pf
          clear pf
          have pi_0 := cv0 pi
          have pi_l := lt_heap pi
          have PI := Lib.hid pi
          clear pi
          have px_0 := cv0 px
          have px_1 := cv1 px
          have px_2 := cv2 px
          have px_l := lt_heap px
          have PX := Lib.hid px
          clear px
          by_cases hjl2:jt<tp.length
          case neg =>
            have q5:¬ (jt:Int)<(tp.length:Int) := by omega
            have hz:tupsF sz ar none tp=0 := by
              rw [← hct,List.drop_eq_nil_of_le (by omega)]; rfl
            have hnx := HNEXT.out hz
            clear hct hz
            have HNX := Lib.hid hnx
            clear hnx
            go_wp2_with fail
            go_roundg (rl.length - (j+1))
            case measure=>omega
            case rel=>exact ⟨j+1,by go_num,by omega,HNX.out,P0.out,PF.out,HB.out⟩
          rw [tupsF_step hjl2] at hct
          obtain ⟨b2,o2,T2,t2,hA2,hSb2,g0,htl2,hts⟩ := tup_at HTP4.out hjl2
          subst hA2
          have hbl2' := HS.out b2 hSb2
          have hbt:b2<wt.heap.size := by omega
          have q5:(jt:Int)<(tp.length:Int) := by omega
          have q6:(0:Int)≤(jt:Int) := by omega
          obtain ⟨tu,htu⟩:∃x,tp[jt]=x := ⟨_,rfl⟩
          rw [htu] at g0 htl2 hts hct
          have hpv:∀p,prevOf tp jt=some p→∃i T' t',jt=i+1∧wt.cell? ⟨b2,o2+i,none⟩=some (.slice T' p.length t')∧zRep.Sl wt S (.slice T' p.length t') p := by
            intro p hp
            cases jt with
            | zero=>cases hp
            | succ i =>
              obtain ⟨b3,o3,T',t',hA3,_,f0,_,f1⟩ := tup_at HTP4.out (j := i) (by omega)
              simp only [Option.some.injEq,Addr.mk.injEq] at hA3
              obtain ⟨rfl,rfl,_⟩ := hA3
              refine ⟨i,T',t',rfl,?_⟩
              have:tp[i]? = some p := hp
              rw [List.getElem?_eq_getElem (by omega)] at this
              rw [← Option.some.inj this]
              exact ⟨f0,f1⟩
          obtain ⟨pt,hpe⟩:∃pt,prevOf tp jt=pt := ⟨_,rfl⟩
          rw [hpe] at hct hpv
          have hpv0:pt=none→jt=0 := by
            intro e
            rw [e] at hpe
            cases jt with
            | zero=>rfl
            | succ i =>
              have h3:tp[i]? = none := hpe
              rw [List.getElem?_eq_getElem (by omega)] at h3
              cases h3
          have htcode:∀c,tupCode sz ar pt tu=c→c≠0→mdFault ⟨sz,cl,rl⟩=(c,j) := fun c e hne=>by
            have h3 := hct
            rw [e,if_neg hne] at h3
            exact HCODE.out c h3.symm hne
          have htnext:tupCode sz ar pt tu=0→tupsF sz ar (prevOf tp (jt+1)) (tp.drop (jt+1))=tupsF sz ar none tp := fun e=>by
            have h3 := hct
            rwa [e,if_pos rfl] at h3
          clear hct htu hpe
          unfold maxLen at htl2
          have HPV := Lib.hid hpv
          have HPV0 := Lib.hid hpv0
          have HTCODE := Lib.hid htcode
          have HTNEXT := Lib.hid htnext
          have HTS := Lib.hid hts
          clear hpv hpv0 htcode htnext hts
          by_cases hlen:(tu.length:Int)=ar
          case neg =>
            have q7:((tu.length:Int) != ar)=true := bne_iff_ne.2 hlen
            have hr := HTCODE.out 9 (by unfold tupCode; rw [if_pos hlen]) (by decide)
            have HR := Lib.hid hr
            clear hr
            clear hlen
            have hcl := bad2_any E 9 (j:Nat) wt pi_0
            have HCL := Lib.hid hcl
            clear hcl
            go_upto_region 30 with (fail)
            go_cut [] (fun wc2=>wc2.heap[w.heap.size+1]? = some (.cells #[.int .i64 9,.int .i64 (j:Nat)] 32 (0,0))∧Below w.heap.size w wc2)
            case first =>
              go_wp2_with fail
              (with_reducible refine HCL.out.mono ?_)
              rintro e wb ⟨rfl,hwb⟩
              have qf := (hwb.block (w.heap.size+1) pf_l).trans PF.out
              have hBb := HB.out.trans (hwb.mono (by omega))
              have HBB := Lib.hid hBb
              clear hBb
              have qf_0 := cv0 qf
              have qf_1 := cv1 qf
              have qf_f0 := free_heap qf 0
              have qf_f1 := free_heap qf 1
              have qf_l := lt_heap qf
              have QF := Lib.hid qf
              clear qf
              clear pf_0 pf_1 pf_f0 pf_f1 pf_l
              go_wp2_with fail
              go_meet
              exact ⟨at2 QF.out,below2 HBB.out (by omega)⟩
            case rest =>
            obtain ⟨k1,kB⟩ := hcut
            rename World=>wret
            have KB := Lib.hid kB
            clear kB
            have k1_0 := cv0 k1
            have k1_1 := cv1 k1
            have k1_l := lt_heap k1
            have K1 := Lib.hid k1
            clear k1
            go_step
            refine wp_ret ?_
            refine bodyPost_ret (v := .agg #[.int .i64 9,.int .i64 (j:Nat)]) ?hres ?hd ?_
            case hd=>rfl
            case hres=>simp [results,Tryd.results21,go_sem,k1_0,k1_1,k1_l]
            exact HE.out 9 j HR.out _ KB.out
          have q7:((tu.length:Int) != ar)=false := by rw [hlen]; simp
          have HLEN := Lib.hid hlen
          clear hlen
          go_upto_region 31 with (fail)
          go_wp2_with fail
          go_loopg [134] tu.length (fun k v134 wq=>∃q:Nat,v134=.int .i64 (q:Nat)∧wt=wq∧q+k=tu.length∧(tu.take q).any (badV sz)=false)
          case atStart=>exact ⟨0,rfl,rfl,by omega,by simp⟩
          case round =>
            obtain ⟨q,rfl,hwq,hq,hany⟩ := hrel
            subst hwq
            by_cases hql:q<tu.length
            case neg =>
              have q8:¬ (q:Int)<(tu.length:Int) := by omega
              have hall:tu.any (badV sz)=false := by rwa [List.take_of_length_le (by omega)] at hany
              have HALL := Lib.hid hall
              clear hany hall
              go_upto_region 37 with (fail)
              go_cut [161] (fun s161 wy=>∃bb:Bool,s161=.bool bb∧bb=(pt.any fun p=>decide (0≤cmpL p tu))∧wy.heap[w.heap.size]? = some (.cells #[.int .i64 sz,.slice A cl.length c,.slice (some ⟨b,o,none⟩) rl.length d] 25 (0,0))∧wy.heap[w.heap.size+1]? = some (.cells #[.int .i64 0,.int .i64 0] 32 (0,0))∧wy.heap[E]? = some (.cells #[.int .i64 (j:Nat)] 3 (0,0))∧wy.heap[E+1]? = some (.cells #[.string nm,.int .i64 ar,.slice (some ⟨b2,o2,none⟩) tp.length t] 59 (0,0))∧Below w.heap.size w wy∧E+2≤wy.heap.size∧(∀k,k<wx.heap.size→wy.heap[k]? = wx.heap[k]?))
              case first =>
                cases pt with
                | none =>
                  have t1:¬ (0:Int)<(jt:Int) := by have := HPV0.out rfl; omega
                  have t1n:¬ 0<jt := by have := HPV0.out rfl; omega
                  go_wp2_with fail
                  go_meet
                  exact ⟨false,rfl,rfl,P0.out,PF.out,PI.out,PX.out,HB.out,zt,HKT.out⟩
                | some p =>
                  obtain ⟨i,T',t',hji,f0,f1⟩ := HPV.out p rfl
                  have t1:(0:Int)<(jt:Int) := by omega
                  have t1n:0<jt := by omega
                  have hj1:(jt:Int) - 1=(i:Int) := by omega
                  have u0:(0:Int)≤(i:Int) := by omega
                  have u1:(i:Int)<(tp.length:Int) := by omega
                  have hcl := cmpL_any p tu T' T2 t' t2 wt S (f1.keep (fun _ _=>rfl) (fun _ h=>h)) (HTS.out.keep (fun _ _=>rfl) (fun _ h=>h))
                  obtain ⟨z,hz⟩:∃z,cmpL p tu=z := ⟨_,rfl⟩
                  rw [hz] at hcl
                  have hany2:decide (0≤z)=((some p).any fun p=>decide (0≤cmpL p tu)) := by
                    simp only [Option.any_some,hz]
                  have HANY2 := Lib.hid hany2
                  clear hany2 hji hz f1
                  have HCL := Lib.hid hcl
                  clear hcl
                  go_wp2_with fail
                  (with_reducible refine HCL.out.mono ?_)
                  rintro e w9 ⟨rfl,rfl⟩
                  go_wp2_with fail
                  go_meet
                  exact ⟨decide (0≤z),rfl,HANY2.out,P0.out,PF.out,PI.out,PX.out,HB.out,zt,HKT.out⟩
              case rest =>
              obtain ⟨bb,rfl,hbb,p0,pf,pi,px,hB,zy,hky⟩ := hcut
              rename World=>wy
              clear p0_0 p0_1 p0_2 p0_l pf_0 pf_1 pf_f0 pf_f1 pf_l pi_0 pi_l px_0 px_1 px_2 px_l P0 PF HB PI PX
              clear g0
              have HBB := Lib.hid hbb
              have HKY := Lib.hid hky
              clear hbb hky
              have HB := Lib.hid hB
              clear hB
              have p0_0 := cv0 p0
              have p0_1 := cv1 p0
              have p0_2 := cv2 p0
              have p0_l := lt_heap p0
              have P0 := Lib.hid p0
              clear p0
              have pf_0 := cv0 pf
              have pf_1 := cv1 pf
              have pf_f0 := free_heap pf 0
              have pf_f1 := free_heap pf 1
              have pf_l := lt_heap pf
              have PF := Lib.hid pf
              clear pf
              have pi_0 := cv0 pi
              have pi_l := lt_heap pi
              have PI := Lib.hid pi
              clear pi
              have px_0 := cv0 px
              have px_1 := cv1 px
              have px_2 := cv2 px
              have px_l := lt_heap px
              have PX := Lib.hid px
              clear px
              cases bb with
              | true =>
                have hr := HTCODE.out 13 (by unfold tupCode; rw [if_neg (by have := HLEN.out; omega),if_neg (by rw [HALL.out]; decide),if_pos HBB.out.symm]) (by decide)
                have HR := Lib.hid hr
                clear hr
                have hcl := bad2_any E 13 (j:Nat) wy pi_0
                have HCL := Lib.hid hcl
                clear hcl
                go_upto_region 38 with (fail)
                go_cut [] (fun wc2=>wc2.heap[w.heap.size+1]? = some (.cells #[.int .i64 13,.int .i64 (j:Nat)] 32 (0,0))∧Below w.heap.size w wc2)
                case first =>
                  go_wp2_with fail
                  (with_reducible refine HCL.out.mono ?_)
                  rintro e wb ⟨rfl,hwb⟩
                  have qf := (hwb.block (w.heap.size+1) pf_l).trans PF.out
                  have hBb := HB.out.trans (hwb.mono (by omega))
                  have HBB := Lib.hid hBb
                  clear hBb
                  have qf_0 := cv0 qf
                  have qf_1 := cv1 qf
                  have qf_f0 := free_heap qf 0
                  have qf_f1 := free_heap qf 1
                  have qf_l := lt_heap qf
                  have QF := Lib.hid qf
                  clear qf
                  clear pf_0 pf_1 pf_f0 pf_f1 pf_l
                  go_wp2_with fail
                  go_meet
                  exact ⟨at2 QF.out,below2 HBB.out (by omega)⟩
                case rest =>
                obtain ⟨k1,kB⟩ := hcut
                rename World=>wret
                have KB := Lib.hid kB
                clear kB
                have k1_0 := cv0 k1
                have k1_1 := cv1 k1
                have k1_l := lt_heap k1
                have K1 := Lib.hid k1
                clear k1
                go_step
                refine wp_ret ?_
                refine bodyPost_ret (v := .agg #[.int .i64 13,.int .i64 (j:Nat)]) ?hres ?hd ?_
                case hd=>rfl
                case hres=>simp [results,Tryd.results21,go_sem,k1_0,k1_1,k1_l]
                exact HE.out 13 j HR.out _ KB.out
              | false =>
                have hnx := HTNEXT.out (by unfold tupCode; rw [if_neg (by have := HLEN.out; omega),if_neg (by rw [HALL.out]; decide),if_neg (by rw [← HBB.out]; decide)])
                have HNX := Lib.hid hnx
                clear hnx
                go_wp2_with fail
                go_roundg (tp.length - (jt+1))
                case measure=>omega
                case rel=>exact ⟨jt+1,by go_num,by omega,HNX.out,P0.out,PF.out,PI.out,PX.out,HB.out,zy,HKY.out⟩
            obtain ⟨b3,o3,hA3,hSb3,k0⟩ := int_at HTS.out hql
            subst hA3
            have hb3:b3<wt.heap.size := by have := HS.out b3 hSb3; omega
            have q8:(q:Int)<(tu.length:Int) := by omega
            have q9:(0:Int)≤(q:Int) := by omega
            have hmem:tu[q]∈tu := List.getElem_mem hql
            have htk:(tu.take (q+1)).any (badV sz)=((tu.take q).any (badV sz) || badV sz tu[q]) := by
              rw [List.take_succ_eq_append_getElem hql,List.any_append]; simp
            obtain ⟨v,hv⟩:∃v,tu[q]=v := ⟨_,rfl⟩
            rw [hv] at k0 hmem htk
            by_cases hvb:v<0∨sz≤v
            · have hr := HTCODE.out 3 (by unfold tupCode; rw [if_neg (by have := HLEN.out; omega),if_pos (List.any_eq_true.2 ⟨v,hmem,by simp [badV]; exact hvb⟩)]) (by decide)
              have hv2:v<0∨(¬ v<0∧sz≤v) := by omega
              clear hvb hv hmem htk hany
              have HR := Lib.hid hr
              clear hr
              rcases hv2 with r5 | ⟨r5,r6⟩
              · skip
                have hcl := bad2_any E 3 (j:Nat) wt pi_0
                have HCL := Lib.hid hcl
                clear hcl
                go_upto_region 35 with (fail)
                go_cut [] (fun wc2=>wc2.heap[w.heap.size+1]? = some (.cells #[.int .i64 3,.int .i64 (j:Nat)] 32 (0,0))∧Below w.heap.size w wc2)
                case first =>
                  go_wp2_with fail
                  (with_reducible refine HCL.out.mono ?_)
                  rintro e wb ⟨rfl,hwb⟩
                  have qf := (hwb.block (w.heap.size+1) pf_l).trans PF.out
                  have hBb := HB.out.trans (hwb.mono (by omega))
                  have HBB := Lib.hid hBb
                  clear hBb
                  have qf_0 := cv0 qf
                  have qf_1 := cv1 qf
                  have qf_f0 := free_heap qf 0
                  have qf_f1 := free_heap qf 1
                  have qf_l := lt_heap qf
                  have QF := Lib.hid qf
                  clear qf
                  clear pf_0 pf_1 pf_f0 pf_f1 pf_l
                  go_wp2_with fail
                  go_meet
                  exact ⟨at2 QF.out,below2 HBB.out (by omega)⟩
                case rest =>
                obtain ⟨k1,kB⟩ := hcut
                rename World=>wret
                have KB := Lib.hid kB
                clear kB
                have k1_0 := cv0 k1
                have k1_1 := cv1 k1
                have k1_l := lt_heap k1
                have K1 := Lib.hid k1
                clear k1
                go_step
                refine wp_ret ?_
                refine bodyPost_ret (v := .agg #[.int .i64 3,.int .i64 (j:Nat)]) ?hres ?hd ?_
                case hd=>rfl
                case hres=>simp [results,Tryd.results21,go_sem,k1_0,k1_1,k1_l]
                exact HE.out 3 j HR.out _ KB.out
              · skip
                have hcl := bad2_any E 3 (j:Nat) wt pi_0
                have HCL := Lib.hid hcl
                clear hcl
                go_upto_region 35 with (fail)
                go_cut [] (fun wc2=>wc2.heap[w.heap.size+1]? = some (.cells #[.int .i64 3,.int .i64 (j:Nat)] 32 (0,0))∧Below w.heap.size w wc2)
                case first =>
                  go_wp2_with fail
                  (with_reducible refine HCL.out.mono ?_)
                  rintro e wb ⟨rfl,hwb⟩
                  have qf := (hwb.block (w.heap.size+1) pf_l).trans PF.out
                  have hBb := HB.out.trans (hwb.mono (by omega))
                  have HBB := Lib.hid hBb
                  clear hBb
                  have qf_0 := cv0 qf
                  have qf_1 := cv1 qf
                  have qf_f0 := free_heap qf 0
                  have qf_f1 := free_heap qf 1
                  have qf_l := lt_heap qf
                  have QF := Lib.hid qf
                  clear qf
                  clear pf_0 pf_1 pf_f0 pf_f1 pf_l
                  go_wp2_with fail
                  go_meet
                  exact ⟨at2 QF.out,below2 HBB.out (by omega)⟩
                case rest =>
                obtain ⟨k1,kB⟩ := hcut
                rename World=>wret
                have KB := Lib.hid kB
                clear kB
                have k1_0 := cv0 k1
                have k1_1 := cv1 k1
                have k1_l := lt_heap k1
                have K1 := Lib.hid k1
                clear k1
                go_step
                refine wp_ret ?_
                refine bodyPost_ret (v := .agg #[.int .i64 3,.int .i64 (j:Nat)]) ?hres ?hd ?_
                case hd=>rfl
                case hres=>simp [results,Tryd.results21,go_sem,k1_0,k1_1,k1_l]
                exact HE.out 3 j HR.out _ KB.out
            · have htk2:(tu.take (q+1)).any (badV sz)=false := by rw [htk,hany]; simp [badV]; omega
              have r5:¬ v<0 := by omega
              have r6:¬ sz≤v := by omega
              clear hvb hv hmem htk hany
              have HTK2 := Lib.hid htk2
              clear htk2
              go_wp2_with fail
              go_roundg (tu.length - (q+1))
              case measure=>omega
              case rel=>exact ⟨q+1,by go_num,by trivial,by omega,HTK2.out⟩
    rw [consF_step hjl] at hc
    obtain ⟨b,o,hA,hSb,e0,e1,hn⟩ := con_at HC2.out hjl
    subst hA
    have hbl := HS.out b hSb
    have hbl2:b<wr.heap.size := by omega
    have hbl3:b<wr.heap.size+1 := by omega
    have hbl4:b<wr.heap.size+1+1 := by omega
    obtain ⟨⟨nm,v⟩,hv⟩:∃x,cl[j]=x := ⟨_,rfl⟩
    rw [hv] at e0 e1 hn hc
    simp only at e0 e1 hn
    have hnm := fun W:World=>name_any nm W hn
    have q1:(j:Int)<(cl.length:Int) := by omega
    have q0:(0:Int)≤(j:Int) := by omega
    have hpv:∀p,prevOf cl j=some p→∃i,j=i+1∧wr.cell? ⟨b,o+i * 2,none⟩=some (.string p.nm) := by
      intro p hp
      cases j with
      | zero=>cases hp
      | succ i =>
        obtain ⟨b2,o2,hA2,_,f0,_⟩ := con_at HC2.out (j := i) (by omega)
        simp only [Option.some.injEq,Addr.mk.injEq] at hA2
        obtain ⟨rfl,rfl,_⟩ := hA2
        refine ⟨i,rfl,?_⟩
        have:cl[i]? = some p := hp
        rw [List.getElem?_eq_getElem (by omega)] at this
        rw [← Option.some.inj this]
        exact f0
    obtain ⟨pv,hpe⟩:∃pv,prevOf cl j=pv := ⟨_,rfl⟩
    rw [hpe] at hc hpv
    have hpv0:pv=none→j=0 := by
      intro e
      rw [e] at hpe
      cases j with
      | zero=>rfl
      | succ i =>
        have h3:cl[i]? = none := hpe
        rw [List.getElem?_eq_getElem (by omega)] at h3
        cases h3
    have HC := Lib.hid hc
    have HNM := Lib.hid hnm
    have HPV := Lib.hid hpv
    have HPV0 := Lib.hid hpv0
    clear hc hnm hpv hpv0
    clear hv hpe
    go_upto_region 9 with (fail)
    refine gen_last (fun W=>W.heap[w.heap.size]? = some (.cells #[.int .i64 sz,.slice (some ⟨b,o,none⟩) cl.length c,.slice B rl.length d] 25 (0,0))∧W.heap[w.heap.size+1]? = some (.cells #[.int .i64 0,.int .i64 0] 32 (0,0))∧W.heap[wr.heap.size]? = some (.cells #[.int .i64 (j:Nat)] 3 (0,0))∧W.heap[wr.heap.size+1]? = some (.cells #[.string nm,.int .i64 v] 49 (0,0))∧(∀k,k<wr.heap.size→W.heap[k]? = wr.heap[k]?)∧Below w.heap.size w W∧wr.heap.size+2≤W.heap.size) ?_ ?_
    · exact ⟨heap_old (by simp; omega) (heap_old p0_l P0.out),heap_old (by simp; omega) (heap_old pf_l PF.out),heap_old (by simp) (heap_at rfl),heap_at (by simp),fun k hk=>heap_old (by simp; omega) (heap_old hk rfl),(HB.out.alloc (by omega) _).alloc (by simp; omega) _,by simp⟩
    rintro wo ⟨p0,pf,pi,pc,hkw,hB,zo⟩
    have hcode:∀c,conCode sz pv ⟨nm,v⟩=c→c≠0→mdFault ⟨sz,cl,rl⟩=(c,j) := fun c e hne=>by
      have h3 := HC.out
      rw [e,if_neg hne] at h3
      exact (HBAD.out (by rw [← h3]; exact hne)).trans h3.symm
    have hnext:conCode sz pv ⟨nm,v⟩=0→consF sz (prevOf cl (j+1)) (j+1) (cl.drop (j+1))=consF sz none 0 cl := fun e=>by
      have h3 := HC.out
      rwa [e,if_pos rfl] at h3
    clear p0_0 p0_1 p0_2 p0_l pf_0 pf_1 pf_f0 pf_f1 pf_l e0 e1 P0 PF HB
    have HKW := Lib.hid hkw
    have HB := Lib.hid hB
    have HCODE := Lib.hid hcode
    have HNEXT := Lib.hid hnext
    clear hkw hB hcode hnext
    have p0_0 := cv0 p0
    have p0_1 := cv1 p0
    have p0_2 := cv2 p0
    have p0_l := lt_heap p0
    have P0 := Lib.hid p0
    clear p0
    have pf_0 := cv0 pf
    have pf_1 := cv1 pf
    have pf_f0 := free_heap pf 0
    have pf_f1 := free_heap pf 1
    have pf_l := lt_heap pf
    have PF := Lib.hid pf
    clear pf
    have pi_0 := cv0 pi
    have pi_l := lt_heap pi
    have PI := Lib.hid pi
    clear pi
    have pc_0 := cv0 pc
    have pc_1 := cv1 pc
    have pc_l := lt_heap pc
    have PC := Lib.hid pc
    clear pc
    go_wp2_with fail
    (with_reducible refine (HNM.out _).mono ?_)
    rintro e wz ⟨rfl,rfl⟩
    cases hok:okName nm with
    | false =>
      have hr := HCODE.out 10 (by unfold conCode; rw [if_pos hok]) (by decide)
      have HR := Lib.hid hr
      clear hr
      clear hok
      have hcl := bad1_any wr.heap.size 10 (j:Nat) wo pi_0
      have HCL := Lib.hid hcl
      clear hcl
      go_upto_region 10 with (fail)
      go_cut [] (fun wc2=>wc2.heap[w.heap.size+1]? = some (.cells #[.int .i64 10,.int .i64 (j:Nat)] 32 (0,0))∧Below w.heap.size w wc2)
      case first =>
        go_wp2_with fail
        (with_reducible refine HCL.out.mono ?_)
        rintro e wb ⟨rfl,hwb⟩
        have qf := (hwb.block (w.heap.size+1) pf_l).trans PF.out
        have hBb := HB.out.trans (hwb.mono (by omega))
        have HBB := Lib.hid hBb
        clear hBb
        have qf_0 := cv0 qf
        have qf_1 := cv1 qf
        have qf_f0 := free_heap qf 0
        have qf_f1 := free_heap qf 1
        have qf_l := lt_heap qf
        have QF := Lib.hid qf
        clear qf
        clear pf_0 pf_1 pf_f0 pf_f1 pf_l
        go_wp2_with fail
        go_meet
        exact ⟨at2 QF.out,below2 HBB.out (by omega)⟩
      case rest =>
      obtain ⟨k1,kB⟩ := hcut
      rename World=>wret
      have KB := Lib.hid kB
      clear kB
      have k1_0 := cv0 k1
      have k1_1 := cv1 k1
      have k1_l := lt_heap k1
      have K1 := Lib.hid k1
      clear k1
      go_step
      refine wp_ret ?_
      refine bodyPost_ret (v := .agg #[.int .i64 10,.int .i64 (j:Nat)]) ?hres ?hd ?_
      case hd=>rfl
      case hres=>simp [results,Tryd.results21,go_sem,k1_0,k1_1,k1_l]
      exact HE.out 10 j HR.out _ KB.out
    | true =>
    have HOK := Lib.hid hok
    clear hok
    have hbo:b<wo.heap.size := by omega
    go_upto_region 11 with (fail)
    go_cut [61] (fun s61 wx=>∃bb:Bool,s61=.bool bb∧bb=(pv.any fun p=>decide (0≤cmpS p.nm nm))∧wx.heap[w.heap.size]? = some (.cells #[.int .i64 sz,.slice (some ⟨b,o,none⟩) cl.length c,.slice B rl.length d] 25 (0,0))∧wx.heap[w.heap.size+1]? = some (.cells #[.int .i64 0,.int .i64 0] 32 (0,0))∧wx.heap[wr.heap.size]? = some (.cells #[.int .i64 (j:Nat)] 3 (0,0))∧wx.heap[wr.heap.size+1]? = some (.cells #[.string nm,.int .i64 v] 49 (0,0))∧Below w.heap.size w wx∧wr.heap.size+2≤wx.heap.size)
    case first =>
      cases pv with
      | none =>
        have t1:decide ((0:Int)<(j:Int))=false := decide_eq_false (by have := HPV0.out rfl; omega)
        have t1n:decide (0<j)=false := decide_eq_false (by have := HPV0.out rfl; omega)
        go_big_quiet (fail)
        go_wp2_with fail
        go_meet
        exact ⟨false,rfl,rfl,P0.out,PF.out,PI.out,PC.out,(below_nq HB.out _),zo⟩
      | some p =>
        obtain ⟨i,hji,f0⟩ := HPV.out p rfl
        have t1:decide ((0:Int)<(j:Int))=true := decide_eq_true (by omega)
        have t1n:decide (0<j)=true := decide_eq_true (by omega)
        have f1 := (cell_keep (HKW.out b hbl2) (o+i * 2)).trans f0
        have hj1:(j:Int) - 1=(i:Int) := by omega
        have u0:(0:Int)≤(i:Int) := by omega
        have u1:(i:Int)<(cl.length:Int) := by omega
        obtain ⟨bl,hb⟩:∃bl,Op.bytesLess p.nm.toList nm.toList=bl := ⟨_,rfl⟩
        have hany:(!bl)=((some p).any fun p=>decide (0≤cmpS p.nm nm)) := by
          simp only [Option.any_some,cmpS_ge,hb]
          cases bl <;> rfl
        have HANY := Lib.hid hany
        clear hany hji f0
        go_big_quiet (fail)
        go_wp2_with fail
        go_meet
        exact ⟨!bl,rfl,HANY.out,P0.out,PF.out,PI.out,PC.out,(below_nq HB.out _),zo⟩
    case rest =>
    obtain ⟨bb,rfl,hbb,p0,pf,pi,pc,hB,zo⟩ := hcut
    rename World=>wx
    clear p0_0 p0_1 p0_2 p0_l pf_0 pf_1 pf_f0 pf_f1 pf_l pi_0 pi_l pc_0 pc_1 pc_l P0 PF HB PI PC hbo HPV HPV0 HKW HNM
    have hbo:b<wx.heap.size := by omega
    have HBB := Lib.hid hbb
    have HB := Lib.hid hB
    clear hbb hB
    have p0_0 := cv0 p0
    have p0_1 := cv1 p0
    have p0_2 := cv2 p0
    have p0_l := lt_heap p0
    have P0 := Lib.hid p0
    clear p0
    have pf_0 := cv0 pf
    have pf_1 := cv1 pf
    have pf_f0 := free_heap pf 0
    have pf_f1 := free_heap pf 1
    have pf_l := lt_heap pf
    have PF := Lib.hid pf
    clear pf
    have pi_0 := cv0 pi
    have pi_l := lt_heap pi
    have PI := Lib.hid pi
    clear pi
    have pc_0 := cv0 pc
    have pc_1 := cv1 pc
    have pc_l := lt_heap pc
    have PC := Lib.hid pc
    clear pc
    cases bb with
    | true =>
      have hr := HCODE.out 13 (by unfold conCode; rw [if_neg (by rw [HOK.out]; decide),if_pos HBB.out.symm]) (by decide)
      have HR := Lib.hid hr
      clear hr
      have hcl := bad1_any wr.heap.size 13 (j:Nat) wx pi_0
      have HCL := Lib.hid hcl
      clear hcl
      go_upto_region 12 with (fail)
      go_cut [] (fun wc2=>wc2.heap[w.heap.size+1]? = some (.cells #[.int .i64 13,.int .i64 (j:Nat)] 32 (0,0))∧Below w.heap.size w wc2)
      case first =>
        go_wp2_with fail
        (with_reducible refine HCL.out.mono ?_)
        rintro e wb ⟨rfl,hwb⟩
        have qf := (hwb.block (w.heap.size+1) pf_l).trans PF.out
        have hBb := HB.out.trans (hwb.mono (by omega))
        have HBB := Lib.hid hBb
        clear hBb
        have qf_0 := cv0 qf
        have qf_1 := cv1 qf
        have qf_f0 := free_heap qf 0
        have qf_f1 := free_heap qf 1
        have qf_l := lt_heap qf
        have QF := Lib.hid qf
        clear qf
        clear pf_0 pf_1 pf_f0 pf_f1 pf_l
        go_wp2_with fail
        go_meet
        exact ⟨at2 QF.out,below2 HBB.out (by omega)⟩
      case rest =>
      obtain ⟨k1,kB⟩ := hcut
      rename World=>wret
      have KB := Lib.hid kB
      clear kB
      have k1_0 := cv0 k1
      have k1_1 := cv1 k1
      have k1_l := lt_heap k1
      have K1 := Lib.hid k1
      clear k1
      go_step
      refine wp_ret ?_
      refine bodyPost_ret (v := .agg #[.int .i64 13,.int .i64 (j:Nat)]) ?hres ?hd ?_
      case hd=>rfl
      case hres=>simp [results,Tryd.results21,go_sem,k1_0,k1_1,k1_l]
      exact HE.out 13 j HR.out _ KB.out
    | false =>
    have hne:¬ (pv.any fun p=>decide (0≤cmpS p.nm nm))=true := by rw [← HBB.out]; decide
    by_cases hv:v<0∨sz≤v
    · have hr := HCODE.out 3 (by unfold conCode; rw [if_neg (by rw [HOK.out]; decide),if_neg hne,if_pos (by simp [badV]; exact hv)]) (by decide)
      have hv2:v<0∨(¬ v<0∧sz≤v) := by omega
      have HR := Lib.hid hr
      have HNE := Lib.hid hne
      clear hr hne
      clear hv
      rcases hv2 with q5 | ⟨q5,q6⟩
      · skip
        have hcl := bad1_any wr.heap.size 3 (j:Nat) wx pi_0
        have HCL := Lib.hid hcl
        clear hcl
        go_upto_region 14 with (fail)
        go_cut [] (fun wc2=>wc2.heap[w.heap.size+1]? = some (.cells #[.int .i64 3,.int .i64 (j:Nat)] 32 (0,0))∧Below w.heap.size w wc2)
        case first =>
          go_wp2_with fail
          (with_reducible refine HCL.out.mono ?_)
          rintro e wb ⟨rfl,hwb⟩
          have qf := (hwb.block (w.heap.size+1) pf_l).trans PF.out
          have hBb := HB.out.trans (hwb.mono (by omega))
          have HBB := Lib.hid hBb
          clear hBb
          have qf_0 := cv0 qf
          have qf_1 := cv1 qf
          have qf_f0 := free_heap qf 0
          have qf_f1 := free_heap qf 1
          have qf_l := lt_heap qf
          have QF := Lib.hid qf
          clear qf
          clear pf_0 pf_1 pf_f0 pf_f1 pf_l
          go_wp2_with fail
          go_meet
          exact ⟨at2 QF.out,below2 HBB.out (by omega)⟩
        case rest =>
        obtain ⟨k1,kB⟩ := hcut
        rename World=>wret
        have KB := Lib.hid kB
        clear kB
        have k1_0 := cv0 k1
        have k1_1 := cv1 k1
        have k1_l := lt_heap k1
        have K1 := Lib.hid k1
        clear k1
        go_step
        refine wp_ret ?_
        refine bodyPost_ret (v := .agg #[.int .i64 3,.int .i64 (j:Nat)]) ?hres ?hd ?_
        case hd=>rfl
        case hres=>simp [results,Tryd.results21,go_sem,k1_0,k1_1,k1_l]
        exact HE.out 3 j HR.out _ KB.out
      · skip
        have hcl := bad1_any wr.heap.size 3 (j:Nat) wx pi_0
        have HCL := Lib.hid hcl
        clear hcl
        go_upto_region 14 with (fail)
        go_cut [] (fun wc2=>wc2.heap[w.heap.size+1]? = some (.cells #[.int .i64 3,.int .i64 (j:Nat)] 32 (0,0))∧Below w.heap.size w wc2)
        case first =>
          go_wp2_with fail
          (with_reducible refine HCL.out.mono ?_)
          rintro e wb ⟨rfl,hwb⟩
          have qf := (hwb.block (w.heap.size+1) pf_l).trans PF.out
          have hBb := HB.out.trans (hwb.mono (by omega))
          have HBB := Lib.hid hBb
          clear hBb
          have qf_0 := cv0 qf
          have qf_1 := cv1 qf
          have qf_f0 := free_heap qf 0
          have qf_f1 := free_heap qf 1
          have qf_l := lt_heap qf
          have QF := Lib.hid qf
          clear qf
          clear pf_0 pf_1 pf_f0 pf_f1 pf_l
          go_wp2_with fail
          go_meet
          exact ⟨at2 QF.out,below2 HBB.out (by omega)⟩
        case rest =>
        obtain ⟨k1,kB⟩ := hcut
        rename World=>wret
        have KB := Lib.hid kB
        clear kB
        have k1_0 := cv0 k1
        have k1_1 := cv1 k1
        have k1_l := lt_heap k1
        have K1 := Lib.hid k1
        clear k1
        go_step
        refine wp_ret ?_
        refine bodyPost_ret (v := .agg #[.int .i64 3,.int .i64 (j:Nat)]) ?hres ?hd ?_
        case hd=>rfl
        case hres=>simp [results,Tryd.results21,go_sem,k1_0,k1_1,k1_l]
        exact HE.out 3 j HR.out _ KB.out
    · have hnx := HNEXT.out (by unfold conCode; rw [if_neg (by rw [HOK.out]; decide),if_neg hne,if_neg (by simp [badV]; omega)])
      have q5:¬ v<0 := by omega
      have q6:¬ sz≤v := by omega
      have HNX := Lib.hid hnx
      have HNE := Lib.hid hne
      clear hnx hne
      clear hv
      go_wp2_with fail
      go_roundg (cl.length - (j+1))
      case measure=>omega
      case rel=>exact ⟨j+1,by go_num,by omega,HNX.out,P0.out,PF.out,HB.out⟩
end

end Go.Proofs.YthfokmjpbnfihaaDoor
