/- What the claim's proof leans on, part 18: walks of functions and plain laws. -/
import Derived.Test.YtlpcdpkgnfdpeaaGreatDoorSQ
import Derived.Test.YtlpcdpkgnfdpeaaGreatDoorSP
set_option linter.unusedSimpArgs false
set_option linter.unusedVariables false
set_option maxRecDepth 100000
set_option maxHeartbeats 80000000
namespace Go.Proofs.YtlpcdpkgnfdpeaaGreatDoor
open Go.RowKit
theorem lim_low {s : P13.Sch} (h : P13.Lim s) : Low s := ⟨h.tabs, fun t ht => (h.all t ht).checks, fun t ht => (h.all t ht).cols, fun t ht => (h.all t ht).keys, fun t ht => (h.all t ht).kcols⟩
theorem wf_out {s : P13.Sch} (h : P13.wf s = true) : s.length ≤ 8 ∧ ∀ t ∈ s, P13.tabWF t = true := by
 simp only [P13.wf, Bool.and_eq_true, decide_eq_true_eq, List.all_eq_true] at h
 exact ⟨h.1.1, h.1.2⟩
theorem fine_checks {x : P12.St} (h : P13.Fine x) : x.kind = 1 → x.tb.checks = [] := fun hk => by
 rcases h.cs with ⟨-, -, hq⟩ | ⟨h3, -⟩
 ·exact hq
 ·rw [hk] at h3; cases h3
theorem good_lim {s : P13.Sch} (h : P13.Good s) : P13.Lim s := by
 obtain ⟨h1, h2⟩ := wf_out h.wf
 refine ⟨by omega, fun t ht => ?_⟩
 obtain ⟨a, b, c, d, e, f, g, i⟩ := P13.tabWF_out (h2 t ht)
 have hf := h.fine (P13.createOf t) (List.mem_flatMap.2 ⟨t, ht, by simp [P13.defsT]⟩)
 exact ⟨fine_checks hf rfl, by omega, by omega, by omega, fun k hk => by have := (P13.keyOk_out (f k hk)).2.1; omega⟩
theorem good_def {s : P13.Sch} (h : P13.Good s) : DefOk s := by
 have hl := good_lim h
 obtain ⟨h1, h2⟩ := wf_out h.wf
 refine ⟨lim_low hl, fun t ht => (hl.all t ht).pos, fun t ht k hk c hc => ?_, fun t ht k hk hn => ?_, fun t ht k hk => ?_⟩
 all_goals
  obtain ⟨-, -, -, -, -, f, -, -⟩ := P13.tabWF_out (h2 t ht)
  obtain ⟨a1, a2, a3, a4, a5, a6, a7⟩ := P13.keyOk_out (f k hk)
 ·exact a3 c hc
 ·exact a6 hn
 ·omega
theorem good_defs {s : P13.Sch} (h : P13.Good s) : ∀ x ∈ P13.defs s, (x.kind = 1 → x.tb.checks = []) ∧ (x.kind = 1 → 0 < x.tb.cols.length) := fun x hx => ⟨fine_checks (h.fine x hx), fun hk => by
 obtain ⟨t, ht, hx⟩ := List.mem_flatMap.1 hx
 rcases List.mem_cons.1 hx with rfl | hx
 ·exact ((good_lim h).all t ht).pos
 ·obtain ⟨k, -, rfl⟩ := List.mem_map.1 hx
  cases hk⟩
theorem maybeE_no : P12.maybeE P12.E.none = true := by kernel_rfl
theorem cs_maybe {x : P12.St} (h : x = P12.keptOf x) (hk : P12.isCS x) : P12.maybeE x.wher = true ∧ P12.maybeE x.join = true := by
 rcases hk with ⟨hk, -⟩ | ⟨hk, -⟩
 ·rw [h]; unfold P12.keptOf; simp [hk]; exact maybeE_no
 ·rw [h]; unfold P12.keptOf; simp [hk]; exact maybeE_no
theorem texts_any {S : Nat → Prop} {s : P13.Sch} {v : Value} (w : World) (h : SchAt S w s v) (hg : P13.Good s) (hE : Env w) (hP : EnvP w) :
  Calls Tryz.prog 12 #[.agg #[v]] w fun e w' => ∃ o, e = .returned (.tuple #[o, .bool true]) ∧ Xk.Ext w w' := by
 obtain ⟨p, c, rfl⟩ := h.len
 have HS := Lib.hid h
 have HG := Lib.hid hg
 have HEV := Lib.hid hE
 have HPV := Lib.hid hP
 have hdl := defs_le s (fun t ht => ((good_lim hg).all t ht).keys)
 have hsl := (wf_out hg.wf).1
 clear h hg hE hP
 go_enter Tryz.func12, Tryz.ntmps12
 go_upto_region 3 with fail
 have hx1 : Xk.Ext w ((w.alloc (.cells #[.slice p s.length c] 25)).alloc (.cells #[nilS] 25)) := Xk.xt
 have hb0 := (extA (w.alloc (.cells #[.slice p s.length c] 25)) (.cells #[nilS] 25)).block w.heap.size (by rw [World.size_alloc]; omega) |>.trans (heap_new w (.cells #[.slice p s.length c] 25))
 have hb1 := heap_new (w.alloc (.cells #[.slice p s.length c] 25)) (.cells #[nilS] 25)
 rw [World.size_alloc] at hb1
 have hz1 : ((w.alloc (.cells #[.slice p s.length c] 25)).alloc (.cells #[nilS] 25)).heap.size = w.heap.size + 2 := by simp only [World.size_alloc]
 generalize ((w.alloc (.cells #[.slice p s.length c] 25)).alloc (.cells #[nilS] 25)) = w1 at *
 have HX1 := Lib.hid hx1
 have HD := Lib.hid (definitions_any w1 (HS.out.ext hx1) (good_def HG.out))
 have HB0 := Lib.hid hb0
 have HB1 := Lib.hid hb1
 have HZ1 := Lib.hid hz1
 clear hx1 hb1 hz1
 go_wp2_with (refine lw hb0 Tryz.underlying25 ?_)
 refine HD.out.mono ?_
 rintro e w2 ⟨od, rfl, hod, hx2⟩
 obtain ⟨pd, cd, rfl⟩ := hod.len
 have hz1 := HZ1.out
 have hz2 := hx2.size
 have h20 := (hx2.block _ (by omega)).trans HB0.out
 have h21 := (hx2.block _ (by omega)).trans HB1.out
 have HOD := Lib.hid hod
 have HX2 := Lib.hid (Xk.Ext.trans HX1.out hx2)
 have H20 := Lib.hid h20
 have H21 := Lib.hid h21
 clear hod hx2 h20 h21 hb0 HD
 obtain ⟨i0, hi, hz0, hz1, hz2⟩ := infoParts Tryz.infoString
 have Hi := Lib.hid hi
 have Hz0 := Lib.hid hz0
 have Hz1 := Lib.hid hz1
 have Hz2 := Lib.hid hz2
 clear hi hz0 hz1 hz2
 go_wp2_with fail
 go_loopw [4, 16] (fun o y wr => ∃ (q : Nat) (sq : P13.Sch) (p1 : Option Addr) (n1 c1 : Nat), q ≤ (P13.defs s).length ∧ y = .int .i64 q ∧ Kept w2.heap.size [w.heap.size + 1] w2 wr ∧ wr.heap[w.heap.size + 1]? = some (.cells #[.slice p1 n1 c1] 25) ∧ SchAt (fun b => w.heap.size + 1 < b) wr sq (.slice p1 n1 c1) ∧ Hid (P13.run [] ((P13.defs s).take q) = .ok sq) ∧ wr.ownsRow w2.heap.size 9 1 o q (((P13.defs s).take q).map fun x => bs (P12.print x))) (fun _ y _ => (P13.defs s).length - (intOf y).toNat)
 case atStart => exact ⟨0, [], none, 0, 0, by omega, rfl, Kept.refl _ _ _, H21.out, SlcAt.nil _ _ _ _, Lib.hid rfl, World.ownsRow_nil _ _ _ _⟩
 case round =>
  obtain ⟨q, sq, p1, n1, c1, hq, rfl, hkp, hgm, hsq, HRUN, hon⟩ := hrel
  obtain ⟨pn, cn, rfl⟩ := own_slice hon
  have hwr := hkp.size
  by_cases hlt : q < (P13.defs s).length
  ·obtain ⟨gd, rfl⟩ := HOD.out.root (by omega)
   obtain ⟨-, hgd, he⟩ := SlcAt.elem HOD.out
   obtain ⟨u, hu, hul, hr⟩ := he q _ (List.getElem?_eq_getElem hlt)
   have hm := List.getElem_mem hlt
   have HFN := Lib.hid (HG.out.fine _ hm)
   have HGET := Lib.hid (List.getElem?_eq_getElem hlt)
   obtain ⟨sq', sn, hrun', happ, hlim⟩ := P13.run_lim _ [] s (P13.rebuild HG.out.wf) ⟨by simp, fun t ht => by cases ht⟩ (good_defs HG.out) q _ (List.getElem?_eq_getElem hlt)
   rw [HRUN.out] at hrun'
   cases hrun'
   have HXC := Lib.hid ((good_defs HG.out _ hm).2)
   have HAPP := Lib.hid happ
   have HLIM := Lib.hid hlim
   generalize (P13.defs s)[q] = x at *
   have hkx : ∀ b, w1.heap.size ≤ b → b < w2.heap.size → wr.heap[b]? = w2.heap[b]? := fun b h1 h2 => hkp.block b h2 h2 (by simp; omega)
   have hui : StmtIn (fun b => w1.heap.size ≤ b ∧ b < w2.heap.size) wr x u := hu.keep (fun b hb hl => hkx b hb hl) (fun b hb hl => ⟨hb, hl⟩)
   have hgdl : gd < w2.heap.size := by
    have := World.block_lt_of_cell? _ _ (hr 0 u[0] (List.getElem?_eq_getElem (by omega)))
    exact this
   have HRJ := Lib.hid (range_same hr (hkx gd hgd hgdl))
   have hqb : (q : Int) < ((P13.defs s).length : Int) := by omega
   have hwd : gd < wr.heap.size := by omega
   have hi37 : (Tryz.prog.info? 46).map (·.size) = some u.toArray.size := by rw [List.size_toArray, hul]; kernel_rfl
   have hi37' : (Tryz.prog.info? 46).map (·.size) = some u.length := by rw [hul]; kernel_rfl
   have hu1 := hui.one
   have hus : (37 : Nat) = u.toArray.size := by rw [List.size_toArray, hul]
   have HUI := Lib.hid hui
   have HKP := Lib.hid hkp
   have HON := Lib.hid hon
   have HSQ := Lib.hid hsq
   have HGM := Lib.hid hgm
   have HI := Lib.hid hi37
   have HI' := Lib.hid hi37'
   have HU1 := Lib.hid hu1
   have HUS := Lib.hid hus
   clear hu hr he hkx hui hkp hon hsq happ hlim hul hgm hi37 hi37' hu1 hus
   go_upto_region 6 with (first | (refine wpList_load_mid rfl 46 _ rfl gd (q * 37) rfl _ _ HRJ.out Tryz.underlying46 rfl HI'.out ?_) | (refine pw (heap_new _ _) ?_ (hs := HUS.out) (hi := HI.out) (h1 := HU1.out); intro w3 hp3))
   have hx3 := puts_ext hp3 (extA _ _) (Nat.le_refl _)
   have hxr : Xk.Ext w wr := by
    have h := (Kept.of_ext (B := w.heap.size) (ks := []) HX2.out)
    exact ⟨HKP.out.os.trans h.os, HKP.out.tape.trans h.tape, HKP.out.output.trans h.output, Nat.le_trans h.size hwr, fun b hb => (HKP.out.block b (by omega) (by omega) (by simp; omega)).trans (HX2.out.block b hb)⟩
   have hx03 := Xk.Ext.trans hxr hx3
   have hb3 := hp3.blk
   obtain ⟨hcm1, hcm2⟩ := cs_maybe HFN.out.kept HFN.out.cs
   have HPR := Lib.hid (print_create HFN.out.kept HFN.out.cs hcm1 hcm2 (HEV.out.ext hx03) ((HUI.out.at hx3)) (by have := HFN.out.pr.2.2; omega))
   have HX3 := Lib.hid hx3
   have HX03 := Lib.hid hx03
   clear hp3 hx3 hxr hx03 hcm1 hcm2
   go_wp2_with (first | (refine lw hb3 Tryz.underlying46 ?_ (hi := HI.out)))
   refine HPR.out.mono ?_
   rintro e w4 ⟨rfl, hx4⟩
   obtain ⟨tx, htx⟩ : ∃ tx, tx = P12.print x := ⟨_, rfl⟩
   rw [← htx]
   have HTX := Lib.hid htx
   have hpa := parseC_any ⟨tx.toArray⟩ w4 (HPV.out.ext (Xk.Ext.trans HX03.out hx4)) (by show P12.isCr tx = true; rw [htx]; exact HFN.out.pr.1)
   rw [show P12.parse (⟨tx.toArray⟩ : ByteArray).data.toList = .ok x by show P12.parse tx = _; rw [htx]; exact HFN.out.pr.2.1] at hpa
   have HPA := Lib.hid hpa
   have HX4 := Lib.hid (Xk.Ext.trans HX3.out hx4)
   clear htx hpa hx4 hb3
   go_wp2_with fail
   refine HPA.out.mono ?_
   rintro e w5 ⟨hx5, l, rfl, hin⟩
   have hll := hin.length
   have hj37 : (Tryz.prog.info? 46).map (·.size) = some l.toArray.size := by rw [List.size_toArray, hll]; kernel_rfl
   have hls : (37 : Nat) = l.toArray.size := by rw [List.size_toArray, hll]
   have HJ := Lib.hid hj37
   have HL1 := Lib.hid hin.one
   have HLS := Lib.hid hls
   have HIN := Lib.hid hin
   have HX5 := Lib.hid (Xk.Ext.trans HX4.out hx5)
   clear hx5 hin hll hj37 hls
   go_upto_region 12 with (refine pw (heap_new _ _) ?_ (hs := HLS.out) (hi := HJ.out) (h1 := HL1.out); intro w6 hp6)
   have hx56 := puts_ext hp6 (extA _ _) (Nat.le_refl _)
   have hx6 := Xk.Ext.trans HX5.out hx56
   have hb6 := hp6.blk
   have hgl : w.heap.size + 1 < wr.heap.size := by omega
   have hgm6 := (hx6.block _ hgl).trans HGM.out
   have hap := applied_any w6 (HSQ.out.ext hx6) (lim_low HLIM.out) (fun t ht => (HLIM.out.all t ht).pos) (HIN.out.at hx56) HFN.out.cs HXC.out
   rw [HAPP.out] at hap
   have HAP := Lib.hid hap
   have HX6 := Lib.hid hx6
   have HGM6 := Lib.hid hgm6
   have hz6 := hx6.size
   clear hp6 hx56 hx6 hap
   go_wp2_with (first | (refine lw hgm6 Tryz.underlying25 ?_) | (refine lw hb6 Tryz.underlying46 ?_ (hi := HJ.out)))
   refine HAP.out.mono ?_
   rintro e w7 ⟨⟨p7, n7, c7, he7, hs7⟩, hx7⟩
   dsimp only at he7
   subst he7
   have hgm7 := (hx7.block _ (by omega)).trans HGM6.out
   have HS7 := Lib.hid (hs7 sn rfl)
   have HX7 := Lib.hid (Xk.Ext.trans HX6.out hx7)
   have hz7 := hx7.size
   clear hs7 hx7 hgm6 hb6
   go_upto_region 15 with (refine pw hgm7 ?_; intro w8 hp8)
   have hgm8 := hp8.blk
   have hz8 := hp8.size
   have hon8 := own_same (w' := w8) HON.out (fun b hb => (hp8.rest b (by have := (HON.out.lt b hb).1; omega)).trans (HX7.out.block b (HON.out.lt b hb).2))
   have hk8 : Kept w2.heap.size [w.heap.size + 1] w2 w8 := by
    have h := HKP.out.trans (Kept.of_ext HX7.out)
    exact ⟨hp8.os.trans h.os, hp8.tape.trans h.tape, hp8.output.trans h.output, by rw [hz8]; exact h.size, fun b h1 h2 h3 => (hp8.rest b (by simpa using h3)).trans (h.block b h1 h2 h3)⟩
   have hs8 : SchAt (fun b => w6.heap.size ≤ b) w8 sn (.slice p7 n7 c7) := HS7.out.keep (fun b hb _ => hp8.rest b (by omega)) (fun b hb _ => hb)
   have HON8 := Lib.hid hon8
   have HK8 := Lib.hid hk8
   have HS8 := Lib.hid hs8
   have HGM8 := Lib.hid hgm8
   have HRN := Lib.hid (P13.run_snoc HRUN.out HAPP.out)
   have HXA8 := Lib.hid (extA w8 (.cells #[bs tx] 9))
   have hqs : (P13.defs s).length ≤ 100000 := by omega
   have hz8' : wr.heap.size ≤ w8.heap.size := by omega
   clear hgm7 hgm8 hp8 hon8 hk8 hs8 hz8
   go_wp2_with (at_builtin; go_loud (refine Xo.wpList_appb w2.heap.size rfl _ _ 35 rfl 9 i0 _ 1 16 Tryz.underlying35 Hi.out Hz0.out Hz1.out Hz2.out rfl (by decide) (.slice pn q cn) q _ rfl (own_same HON8.out (fun b hb => HXA8.out.block b (HON8.out.lt b hb).2)) w8.heap.size 0 1 1 [bs tx] rfl (by decide) rfl (cells_list w8 _ _ rfl) (one_all (by kernel_rfl)) (by omega) (by simp only [World.size_alloc]; omega) ?_); intro v' w9 ho' hg' hk')
   refine ⟨⟨q + 1, sn, p7, n7, c7, by omega, by go_num, Kept.grown (HK8.out.alloc _) hg' (fun b hb => (HON8.out.lt b hb).1), (hg'.block _ (by rw [World.size_alloc]; omega) (fun e => by have := (HON8.out.lt _ e.symm).1; omega)).trans ((HXA8.out.block _ (by omega)).trans HGM8.out), ?_, ?_, ?_⟩, by simp [intOf]; omega⟩
   ·exact HS8.out.keep (fun b hb hl => (hg'.block b (by rw [World.size_alloc]; omega) (fun e => by have := (HON.out.lt b e.symm).2; omega)).trans (HXA8.out.block b hl)) (fun b hb _ => by omega)
   ·rw [take_get HGET.out]; exact HRN
   ·rw [← take_map_succ HGET.out, ← HTX.out]; exact ho'
  ·have hqb : ¬ (q : Int) < ((P13.defs s).length : Int) := by omega
   obtain rfl : q = (P13.defs s).length := by omega
   have hrun := HRUN.out
   rw [List.take_length, P13.rebuild HG.out.wf] at hrun
   cases hrun
   have h0r := (hkp.block _ (by omega) (by omega) (by simp)).trans H20.out
   have hxr : Xk.Ext w wr := by
    have h := (Kept.of_ext (B := w.heap.size) (ks := []) HX2.out)
    exact ⟨hkp.os.trans h.os, hkp.tape.trans h.tape, hkp.output.trans h.output, Nat.le_trans h.size hwr, fun b hb => (hkp.block b (by omega) (by omega) (by simp; omega)).trans (HX2.out.block b hb)⟩
   have HEQ := Lib.hid (eqSch_any wr hsq (HS.out.ext hxr) (lim_low (good_lim HG.out)))
   have HXR := Lib.hid hxr
   clear hkp hsq hon hxr HRUN
   go_wp2_with (first | (refine lw hgm Tryz.underlying25 ?_) | (refine lw h0r Tryz.underlying25 ?_))
   refine HEQ.out.mono ?_
   rintro e w3 ⟨rfl, hx3⟩
   go_wp2_with fail
   go_ret2
   exact ⟨_, rfl, Xk.Ext.trans HXR.out hx3⟩
theorem schIs_any {S : Nat → Prop} {s : P13.Sch} {v : Value} (w : World) (h : SchAt S w s v) (hg : P13.Good s) (hE : Env w) (hP : EnvP w) :
  Calls Tryz.prog 8 #[.agg #[v]] w fun e w' => e = .returned (.bool true) ∧ Xk.Ext w w' := by
 have hx1 := extA w (.cells #[v] 25)
 have hb1 := heap_new w (.cells #[v] 25)
 have HT := Lib.hid (texts_any _ (h.ext hx1) hg (hE.ext hx1) (hP.ext hx1))
 obtain ⟨p, c, rfl⟩ := h.len
 have HX := Lib.hid hx1
 clear h hg hE hP hx1
 go_enter Tryz.func8, Tryz.ntmps8
 go_wp2_with (refine lw hb1 Tryz.underlying25 ?_)
 refine HT.out.mono ?_
 rintro e w2 ⟨o, rfl, hx2⟩
 go_wp2_with fail
 go_ret
 exact ⟨rfl, Xk.Ext.trans HX.out hx2⟩
end Go.Proofs.YtlpcdpkgnfdpeaaGreatDoor
namespace Go
theorem lwg {P : Program} {ops : Array Oper} {rest : List Oper} {o : Oper} {a : Act} {w : World} {Q : Exit → Act → World → Prop} {t : TypeId} {x : Operand} {g : Nat} {cs : Array Value} {T : TypeId} {fr : Nat × Nat} {d : TypeDesc} (hg : w.heap[g]? = some (.cells cs T fr)) (hu : P.underlying t = some d) (h : wpList P ops Q rest (a.put o.dst (.agg cs)) w)
  (hi : (P.info? t).map (·.size) = some cs.size) (hw : Region.wanted o (yielded ops a.tmps) = true := by rfl) (ho : o.op = .load t x := by rfl) (hx : a.eval x = .pointer (some ⟨g, 0, none⟩) := by rfl) (hd : (match d with | .struct _ | .array _ _ => true | _ => false) = true := by rfl) : wpList P ops Q (o :: rest) a w := by
 simp only [wpList, hw, if_true]
 unfold Oper.wp execOp
 simp only [ho, hx, Instr.loadAt, Instr.sureAddr, Sem.run_bind, Sem.run_pure, Result.andThen_ok, run_loadVar_row (P := P) w g T t cs fr d hg hu hd hi]
 exact .inl h
end Go
namespace Go.Proofs.YtlpcdpkgnfdpeaaGreatDoor
open Go.RowKit
theorem apply_any {S S2 : Nat → Prop} {s : P13.Sch} {v : Value} {x : P12.St} {lx : List Value} (w : World) (h : SchAt S2 w s v) (hg : P13.Good s) (hx : StmtIn S w x lx) (hkp : x = P12.keptOf x) (hk : P12.isCS x) (hxc : x.kind = 1 → 0 < x.tb.cols.length) (hE : Env w) (hP : EnvP w)
  (hok : ∀ s', P13.applied s x = .ok s' → P13.Good s') (her : ∀ k, P13.applied s x = .error k → k ≠ 0) :
  Calls Tryz.prog 5 #[.agg #[v], .agg lx.toArray] w (AppPost w (P13.applied s x)) := by
 have hln := hx.length
 obtain ⟨p, c, rfl⟩ := h.len
 obtain ⟨hcm1, hcm2⟩ := cs_maybe hkp hk
 have hi37 : (Tryz.prog.info? 46).map (·.size) = some lx.toArray.size := by rw [List.size_toArray, hln]; kernel_rfl
 have HI := Lib.hid hi37
 have HH := Lib.hid h
 have HX := Lib.hid hx
 have HOK := Lib.hid hok
 have HER := Lib.hid her
 obtain ⟨w1, hw1, h0, h1, h2, hx1, hz1⟩ := new3 w (.cells #[.slice p s.length c] 25) (.cells lx.toArray 46) (.cells #[nilS] 25)
 have HX1 := Lib.hid hx1
 have HIS := Lib.hid (schIs_any w1 (h.ext hx1) hg (hE.ext hx1) (hP.ext hx1))
 have HPI := Lib.hid fun W (hxW : Xk.Ext w1 W) => is_create x hkp hk hcm1 hcm2 S W lx (hx.at (Xk.Ext.trans hx1 hxW))
 have HAP := Lib.hid fun W (hxW : Xk.Ext w1 W) => applied_any W (h.ext (Xk.Ext.trans hx1 hxW)) (lim_low (good_lim hg)) (fun t ht => ((good_lim hg).all t ht).pos) (hx.at (Xk.Ext.trans hx1 hxW)) hk hxc
 have HEV := Lib.hid fun W (hxW : Xk.Ext w1 W) => (⟨hE.ext (Xk.Ext.trans hx1 hxW), hP.ext (Xk.Ext.trans hx1 hxW)⟩ : Env W ∧ EnvP W)
 have HB : Hid (∀ W, Xk.Ext w1 W → W.heap[w.heap.size]? = some (.cells #[.slice p s.length c] 25) ∧ W.heap[w.heap.size + 1]? = some (.cells lx.toArray 46) ∧ W.heap[w.heap.size + 2]? = some (.cells #[nilS] 25)) := Lib.hid fun W hxW => ⟨(hxW.block _ (by omega)).trans h0, (hxW.block _ (by omega)).trans h1, (hxW.block _ (by omega)).trans h2⟩
 have HZ1 := Lib.hid hz1
 clear h hx hkp hk hxc hE hP hok her hln hi37 hcm1 hcm2 hx1 h1 h2 hz1
 go_enter Tryz.func5, Tryz.ntmps5
 go_upto_region 1 with fail
 rw [← hw1]
 clear hw1
 go_wp2_with (first | (refine lw h0 Tryz.underlying25 ?_))
 refine HIS.out.mono ?_
 rintro e w2 ⟨rfl, hx2⟩
 obtain ⟨b0, b1, b2⟩ := HB.out w2 hx2
 have HX2 := Lib.hid hx2
 clear h0 hx2
 go_wp2_with (refine lwg b1 Tryz.underlying46 ?_ HI.out)
 refine (HPI.out w2 HX2.out).mono ?_
 rintro e w3 ⟨rfl, hx3⟩
 have HX3 := Lib.hid (Xk.Ext.trans HX2.out hx3)
 clear b0 b1 b2 hx3
 obtain ⟨b0, b1, b2⟩ := HB.out w3 HX3.out
 go_wp2_with (first | (refine lw b0 Tryz.underlying25 ?_) | (refine lw b1 Tryz.underlying46 ?_ (hi := HI.out)))
 refine (HAP.out w3 HX3.out).mono ?_
 rintro e w4 ⟨⟨p4, n4, c4, he4, hs4⟩, hx4⟩
 have HX4 := Lib.hid (Xk.Ext.trans HX3.out hx4)
 have hz4 := (Xk.Ext.trans HX3.out hx4).size
 have hz3 := hx4.size
 have hz1 := HZ1.out
 have hz31 := HX3.out.size
 clear b0 b1 b2 hx4
 cases hr : P13.applied s x with
 | error k =>
  rw [hr] at he4
  dsimp only at he4
  subst he4
  have hk0 := HER.out k hr
  have HR := Lib.hid hr
  clear hr hs4
  obtain ⟨b0, b1, b2⟩ := HB.out w4 HX4.out
  have b2' := ((extA w4 (.cells #[.slice p4 n4 c4] 25)).block _ (Array.getElem?_eq_some_iff.1 b2).1).trans b2
  go_wp2_with (first | (refine pw b2' ?_; intro wZ hpZ))
  exact bodyPost_ret (results_row1 (v := .int .i64 k) rfl rfl rfl hpZ.blk Tryz.underlying25 rfl (by kernel_rfl)) rfl ⟨⟨none, 0, 0, by rw [HR.out], fun s' h => by rw [HR.out] at h; cases h⟩, puts_ext hpZ (Xk.Ext.trans (Xk.Ext.trans HX1.out HX4.out) (extA _ _)) (by omega)⟩
 | ok s' =>
  rw [hr] at he4
  dsimp only at he4
  subst he4
  have HR := Lib.hid hr
  have hx5 := extA w4 (.cells #[.slice p4 n4 c4] 25)
  have hb5 := heap_new w4 (.cells #[.slice p4 n4 c4] 25)
  have hsc := hs4 s' hr
  have hev := HEV.out _ (Xk.Ext.trans HX4.out hx5)
  have HI2 := Lib.hid (schIs_any _ (hsc.ext hx5) (HOK.out s' hr) hev.1 hev.2)
  have HSC := Lib.hid (hsc.ext hx5)
  have HX5 := Lib.hid (Xk.Ext.trans HX4.out hx5)
  have HB5 := Lib.hid hb5
  clear hr hs4 hsc hev hx5
  go_upto_region 4 with fail
  generalize w4.alloc (.cells #[.slice p4 n4 c4] 25) = w5 at *
  have l5 := (Array.getElem?_eq_some_iff.1 hb5).1
  go_wp2_with (refine lwg hb5 Tryz.underlying25 ?_ (by kernel_rfl))
  refine HI2.out.mono ?_
  rintro e w6 ⟨rfl, hx6⟩
  have h64 := (hx6.block _ l5).trans HB5.out
  obtain ⟨b0, b1, b2⟩ := HB.out w6 (Xk.Ext.trans HX5.out hx6)
  have HX6 := Lib.hid (Xk.Ext.trans HX5.out hx6)
  have HSC6 := Lib.hid (HSC.out.ext hx6)
  clear hx6 hb5
  go_wp2_with (first | (refine lw h64 Tryz.underlying25 ?_) | (refine pw b2 ?_; intro wZ hpZ))
  exact bodyPost_ret (results_row1 (v := .int .i64 0) rfl rfl rfl hpZ.blk Tryz.underlying25 rfl (by kernel_rfl)) rfl ⟨⟨p4, n4, c4, by rw [HR.out], fun s2 h2 => by
   rw [HR.out] at h2
   cases h2
   exact HSC6.out.keep (fun b hb _ => hpZ.rest b (by omega)) (fun b hb _ => by omega)⟩, puts_ext hpZ (Xk.Ext.trans HX1.out HX6.out) (by omega)⟩
theorem stmt_any (s : P12.T) (w : World) {x : P12.St} (h : P12.isCr s = true) (hp : P12.parse s = .ok x) : Calls Tryz.prog 6 #[bs s] w fun e w' => ∃ l, e = .returned (.agg l.toArray) ∧ StmtIn (fun b => w.heap.size ≤ b) w' x l ∧ Xk.Ext w w' := by
 have hpa := fun W => refParseC_any ⟨s.toArray⟩ W (show P12.isCr (⟨s.toArray⟩ : ByteArray).data.toList = true from h)
 rw [show P12.parse (⟨s.toArray⟩ : ByteArray).data.toList = .ok x from hp] at hpa
 have HPA := Lib.hid hpa
 clear hpa h hp
 go_enter Tryz.func6, Tryz.ntmps6
 go_upto_region 1 with fail
 obtain ⟨zs, hzs⟩ : ∃ zs, zs = Obj.cells (stmt0 0 0).toArray 46 := ⟨_, rfl⟩
 have hx1 := extA w (Obj.cells (stmt0 0 0).toArray 46)
 have hb1 := heap_new w (Obj.cells (stmt0 0 0).toArray 46)
 have hz1 := World.size_alloc w (Obj.cells (stmt0 0 0).toArray 46)
 generalize w.alloc (Obj.cells (stmt0 0 0).toArray 46) = w1 at *
 have HX1 := Lib.hid hx1
 have HB1 := Lib.hid hb1
 have HZ1 := Lib.hid hz1
 clear hx1 hb1 hz1 hzs
 go_wp2_with fail
 refine (HPA.out w1).mono ?_
 rintro e w2 ⟨hx2, l, rfl, hin⟩
 have hll := hin.length
 have hz2 := hx2.size
 have hz1 := HZ1.out
 have HJ := Lib.hid (show (Tryz.prog.info? 46).map (·.size) = some l.toArray.size by rw [List.size_toArray, hll]; kernel_rfl)
 have HL1 := Lib.hid hin.one
 have HLS := Lib.hid (show (37 : Nat) = l.toArray.size by rw [List.size_toArray, hll])
 have HIN := Lib.hid hin
 have HB2 := Lib.hid ((hx2.block w.heap.size (by omega)).trans HB1.out)
 have HX2 := Lib.hid (Xk.Ext.trans HX1.out hx2)
 clear hll hin hx2
 go_upto_region 2 with (refine pw (heap_new _ _) ?_ (hs := HLS.out) (hi := HJ.out) (h1 := HL1.out); intro w3 hp3)
 have hx3 := puts_ext hp3 (extA _ _) (Nat.le_refl _)
 have hb3 := hp3.blk
 have h30 := (hx3.block w.heap.size (by omega)).trans HB2.out
 have HX3 := Lib.hid hx3
 clear hp3 hx3
 go_wp2_with (first | (refine lw hb3 Tryz.underlying46 ?_ (hi := HJ.out)) | (refine pw h30 ?_ (hs := HLS.out) (hi := HJ.out) (h1 := HL1.out); intro wZ hpZ))
 exact bodyPost_ret (results_row rfl rfl hpZ.blk Tryz.underlying46 rfl HJ.out) rfl ⟨l, rfl, (HIN.out.at HX3.out).keep (fun b hb _ => hpZ.rest b (by omega)) (fun b hb _ => by omega), puts_ext hpZ (Xk.Ext.trans HX2.out HX3.out) (Nat.le_refl _)⟩
def part (i : Nat) : Value → Value
 | .tuple vs => vs.getD i undef
 | _ => undef
theorem good_nil : P13.Good [] := ⟨by kernel_rfl, fun x hx => by cases hx⟩
theorem known_fine : P13.Fine (P13.createOf P13.tK) := P13.good_known.fine _ (by simp [P13.defs, P13.defsT])
theorem known13_any (w : World) (hE : Env w) (hP : EnvP w) : Calls Tryz.prog 4 #[] w fun e w' => e = .returned (.bool true) ∧ Xk.Ext w w' := by
 have HEV := Lib.hid fun W (hx : Xk.Ext w W) => (⟨hE.ext hx, hP.ext hx⟩ : Env W ∧ EnvP W)
 have HST := Lib.hid fun W => stmt_any P13.knownT W P13.known_1.1 P13.known_1.2.1
 have HSU := Lib.hid fun W => stmt_any P13.knownU W P13.known_2.1 P13.known_2.2.1
 clear hE hP
 have hbs : ∀ W : World, (Instr.build 25 #[]).run Tryz.prog W = .ok (.agg #[nilS]) W := fun W => by kernel_rfl
 go_enter Tryz.func4, Tryz.ntmps4
 go_wp2_with fail
 refine (HST.out w).mono ?_
 rintro e w1 ⟨l1, rfl, hin1, hx1⟩
 have HAP := Lib.hid (apply_any (s := []) (v := nilS) (S2 := fun _ => False) w1 (SlcAt.nil _ _ _ _) good_nil hin1 known_fine.kept known_fine.cs (fun _ => by decide) (HEV.out w1 hx1).1 (HEV.out w1 hx1).2 (fun s' h => by rw [P13.known_1.2.2.1] at h; cases h; exact P13.good_known) (fun k h => by rw [P13.known_1.2.2.1] at h; cases h))
 rw [P13.known_1.2.2.1] at HAP
 have HX1 := Lib.hid hx1
 clear hin1 hx1
 go_wp2_with fail
 refine HAP.out.mono ?_
 rintro e w2 ⟨⟨p1, n1, c1, he, hs⟩, hx2⟩
 dsimp only at he
 subst he
 have HS2 := Lib.hid (hs _ rfl)
 have HX2 := Lib.hid (Xk.Ext.trans HX1.out hx2)
 clear hs hx2
 go_upto_region 2 with fail
 have hx3 := extA w2 (.cells #[.slice p1 n1 c1] 25)
 have hb3 := heap_new w2 (.cells #[.slice p1 n1 c1] 25)
 generalize w2.alloc (.cells #[.slice p1 n1 c1] 25) = w3 at *
 have hs3 := HS2.out.ext hx3
 have HX23 := Lib.hid hx3
 have hx03 := Xk.Ext.trans HX2.out hx3
 have l3 : w2.heap.size < w3.heap.size := (Array.getElem?_eq_some_iff.1 hb3).1
 have HS3 := Lib.hid hs3
 have HX03 := Lib.hid hx03
 have HB3 := Lib.hid hb3
 have HAU := Lib.hid fun W (hx : Xk.Ext w3 W) S l (hin : StmtIn S W (P13.createOf P13.uK) l) => apply_any W (hs3.ext hx) P13.good_known hin (P13.kept_create _) P13.uK_cs (fun _ => by decide) (HEV.out W (Xk.Ext.trans hx03 hx)).1 (HEV.out W (Xk.Ext.trans hx03 hx)).2 (fun s' h => by rw [P13.known_2.2.2] at h; cases h) (fun k h => by rw [P13.known_2.2.2] at h; cases h; decide)
 obtain ⟨xu, hxu⟩ : ∃ xu, xu = P13.createOf P13.uK := ⟨_, rfl⟩
 rw [← hxu] at HSU HAU
 obtain ⟨rs, hrs⟩ : ∃ rs, rs = P13.applied [P13.tK] xu := ⟨_, rfl⟩
 rw [← hrs] at HAU
 have HRS := Lib.hid (show rs = .error 131 by rw [hrs, hxu]; exact P13.known_2.2.2)
 clear hx3 hs3 hx03 hxu hrs
 have k31 : w3.cell? ⟨w2.heap.size, 0, none⟩ = some (.slice p1 n1 c1) := by simp [World.cell?, hb3]
 have hse : ∀ W, Calls Tryz.prog 6 #[.string ⟨#[67, 82, 69, 65, 84, 69, 32, 84, 65, 66, 76, 69, 32, 116, 32, 40, 97, 32, 73, 78, 84, 41]⟩] W fun e w' => ∃ l p, w' = Xk.exw W p ∧ e = .returned (.agg l.toArray) ∧ StmtIn (fun b => W.heap.size ≤ b) w' xu l := fun W => (HSU.out W).mono fun e w' ⟨l, he, hin, hx⟩ => by
  obtain ⟨p, rfl⟩ := Xk.exw_of hx
  exact ⟨l, p, rfl, he, hin⟩
 have HSE := Lib.hid hse
 clear hse
 have HAE := Lib.hid fun W (hx : Xk.Ext w3 W) S l (hin : StmtIn S W xu l) => (HAU.out W hx S l hin).mono fun e w' (h : AppPost W rs e w') => (by obtain ⟨⟨p4, n4, c4, he, -⟩, hx⟩ := h; obtain ⟨p, rfl⟩ := Xk.exw_of hx; rw [HRS.out] at he; exact ⟨p4, n4, c4, p, rfl, he⟩ : ∃ p4 n4 c4 p, w' = Xk.exw W p ∧ e = .returned (.tuple #[.agg #[.slice p4 n4 c4], .int .i64 131]))
 have hs5 := HS3.out
 obtain ⟨gT, rfl⟩ := hs5.root (by decide)
 obtain ⟨hn, -, he⟩ := SlcAt.elem hs5
 obtain ⟨u, hu, -, hr⟩ := he 0 P13.tK rfl
 obtain ⟨tc, tk, tq, rfl, a1, a2, a3⟩ := hu
 obtain ⟨pk, ck, rfl⟩ := a2.len
 obtain ⟨pc, cc, rfl⟩ := a1.len
 obtain ⟨gC, rfl⟩ := a1.root (by decide)
 have hcc := colCells a1
 obtain rfl : n1 = 1 := hn
 have ct1 : w3.cell? ⟨gT, 1, none⟩ = some (.slice (some ⟨gC, 0, none⟩) 2 cc) := hr 1 _ rfl
 have ct2 : w3.cell? ⟨gT, 2, none⟩ = some (.slice pk 2 ck) := hr 2 _ rfl
 have cn : w3.cell? ⟨gC, 2, none⟩ = some (.bool true) := hcc 2 _ rfl
 have l2 : gT < w3.heap.size := World.block_lt_of_cell? _ _ ct1
 have l4 : gC < w3.heap.size := World.block_lt_of_cell? _ _ cn
 clear HSU HAU HST HAP HEV HS3 HS2 hb3 hs5 hr he a1 a2 a3 hcc
 have hn0 : ∀ k, ¬ w2.heap.size = w3.heap.size + k := fun k => by omega
 have hnT : ∀ k, ¬ gT = w3.heap.size + k := fun k => by omega
 have hnC : ∀ k, ¬ gC = w3.heap.size + k := fun k => by omega
 go_region_with (first
  | (go_at_call 6; (with_reducible refine (HSE.out _).mono ?_); rintro e W2 ⟨l, pa, rfl, rfl, hin⟩; (try simp only [Xk.exw_drew] at hin); have HIN := Lib.hid hin; clear hin)
  | (go_at_call 5; (with_reducible refine (HAE.out _ Xk.xt _ _ (HIN.out.at Xk.xt)).mono ?_); rintro e W3 ⟨p4, n4, c4, pb, rfl, rfl⟩)
  | (go_at_call 5; (with_reducible refine (HAE.out _ Xk.xt _ _ HIN.out).mono ?_); rintro e W3 ⟨p4, n4, c4, pb, rfl, rfl⟩))
 all_goals
  have hxW : Xk.Ext w3 (Xk.exw ((Xk.exw w3 pa).alloc (.cells #[.slice p4 n4 c4] 25)) pb) := (by repeat (first | with_reducible exact Below.refl _ _ | ((with_reducible refine Below.setCell ?_ ?_ _); rotate_left; exact Xk.sz) | ((with_reducible refine Below.alloc ?_ ?_ _); rotate_left; exact Xk.sz) | ((with_reducible refine Xk.below_exw ?_ ?_ _); rotate_left; exact Xk.sz) | (with_reducible refine Below.drew ?_)))
  have q31 := Xk.ext_cell hxW k31
  have qt1 := Xk.ext_cell hxW ct1
  have qt2 := Xk.ext_cell hxW ct2
  have qn := Xk.ext_cell hxW cn
  have HXW := Lib.hid hxW
  clear hxW
  generalize Xk.exw ((Xk.exw w3 pa).alloc (.cells #[.slice p4 n4 c4] 25)) pb = W9 at *
  go_wp2_with fail
  first
  | (go_ret; exact ⟨rfl, Xk.Ext.trans HX03.out HXW.out⟩)
  | (go_ret; exact ⟨rfl, Xk.Ext.trans HX03.out (by repeat (first | with_reducible exact Below.refl _ _ | ((with_reducible refine Below.setCell ?_ ?_ _); rotate_left; exact Xk.sz) | ((with_reducible refine Below.alloc ?_ ?_ _); rotate_left; exact Xk.sz) | ((with_reducible refine Xk.below_exw ?_ ?_ _); rotate_left; exact Xk.sz) | (with_reducible refine Below.drew ?_)))⟩)
end Go.Proofs.YtlpcdpkgnfdpeaaGreatDoor
namespace P13
open P12 (T)
theorem bodyT_succ (i : Nat) : bodyT (i + 1) = (if 0 < i then bodyT i ++ [44, 32] else bodyT i) ++ col i ++ [32, 73, 78, 84] := by
 simp [bodyT, List.range_succ, List.foldl_append]
theorem listT_succ (i : Nat) : listT (i + 1) = (if 0 < i then listT i ++ [44, 32] else listT i) ++ col i := by
 simp [listT, List.range_succ, List.foldl_append]
theorem bodyT_zero : bodyT 0 = [] := rfl
theorem listT_zero : listT 0 = [] := rfl
theorem bodyT_len (i : Nat) : (bodyT i).length ≤ 7 * i := by
 induction i with
 | zero => simp [bodyT_zero]
 | succ i ih => rw [bodyT_succ]; split <;> simp [col] <;> omega
theorem listT_len (i : Nat) : (listT i).length ≤ 3 * i := by
 induction i with
 | zero => simp [listT_zero]
 | succ i ih => rw [listT_succ]; split <;> simp [col] <;> omega
end P13
namespace P13
open P12 (T St E)
theorem dig_0 : (List.range 12).map (fun t : Nat => Go.Lib.itoa (t : Int)) = (List.range 12).map dig := by kernel_rfl
theorem dig_eq {t : Nat} (h : t < 12) : Go.Lib.itoa (t : Int) = dig t := map_at dig_0 h
structure Rnd (s : Sch) (x : St) (tx : T) : Prop where
 good : Good s
 cr : P12.isCr tx = true
 pa : P12.parse tx = .ok x
 fine : Fine x
 cols : x.kind = 1 → 0 < x.tb.cols.length
def sqT (q t : Nat) : Sch := if q ≤ 8 then schN (min t 8) q 0 1 else []
def skT (T q d k : Nat) : Sch := if d ≤ 3 then schN (min T 8) q (min k 8) d else schN (min T 8) q 0 1
theorem good_no : Good [] := ⟨by kernel_rfl, fun x hx => by cases hx⟩
theorem sqT_good {q t : Nat} (h1 : 1 ≤ q) : Good (sqT q t) := by
 unfold sqT
 split
 ·exact good_0 (by omega) h1 (by omega) 1
 ·exact good_no
theorem skT_good {T q d k : Nat} (hT : 1 ≤ T) (h1 : 1 ≤ q) (h2 : q ≤ 8) (h3 : 1 ≤ d) (h5 : d ≤ q) : Good (skT T q d k) := by
 unfold skT
 split
 ·exact good_1 (by omega) (by omega) h1 h2 (by omega) h3 (by omega) h5
 ·exact good_0 (by omega) h1 h2 1
theorem rndT {q t : Nat} (ht : t < 12) (h1 : 1 ≤ q) (h2 : q ≤ 12) : Rnd (sqT q t) (createOf (tab t q [])) (createT t q) :=
 have a := create_ok ht h1 h2
 ⟨sqT_good h1, a.1, a.2.2.2, create_fine ht h1 h2, fun _ => by simp [createOf, tab]; omega⟩
theorem rndK {T q d k : Nat} (hT : 1 ≤ T) (hk : k < 12) (h1 : 1 ≤ q) (h2 : q ≤ 8) (h3 : 1 ≤ d) (h4 : d ≤ 5) (h5 : d ≤ q) : Rnd (skT T q d k) (indexOf (tab 0 d []) (key k d)) (indexT k d) :=
 have a := index_ok hk h3 h4
 ⟨skT_good hT h1 h2 h3 h5, a.1, a.2.2.2, index_fine hk h3 h4, fun h => by cases h⟩
theorem stepT_no {q t : Nat} (ht : t < 12) (h1 : 1 ≤ q) (h2 : q ≤ 12) (h : 8 ≤ t ∨ 8 < q) : applied (sqT q t) (createOf (tab t q [])) = .error 134 ∧ sqT q (t + 1) = sqT q t := by
 unfold sqT
 by_cases hq : q ≤ 8
 ·rw [if_pos hq, if_pos hq, show min t 8 = 8 by omega, show min (t + 1) 8 = 8 by omega]
  exact ⟨applied_more (by omega) ht h1 hq, rfl⟩
 ·rw [if_neg hq, if_neg hq]
  exact ⟨applied_wide ht (by omega) h2, rfl⟩
theorem stepT_ok {q t : Nat} (h1 : 1 ≤ q) (ht : t < 8) (h2 : q ≤ 8) : applied (sqT q t) (createOf (tab t q [])) = .ok (sqT q (t + 1)) ∧ (sqT q (t + 1)).length = t + 1 := by
 unfold sqT
 rw [if_pos h2, if_pos h2, show min t 8 = t by omega, show min (t + 1) 8 = t + 1 by omega]
 exact ⟨applied_tab ht h1 h2, by simp [schN]⟩
theorem stepK_no {T q d k : Nat} (hT : 1 ≤ T) (hk : k < 12) (h1 : 1 ≤ q) (h2 : q ≤ 8) (h3 : 1 ≤ d) (h4 : d ≤ 5) (h5 : d ≤ q) (h : 8 ≤ k ∨ 3 < d) : applied (skT T q d k) (indexOf (tab 0 d []) (key k d)) = .error 134 ∧ skT T q d (k + 1) = skT T q d k := by
 unfold skT
 by_cases hd : d ≤ 3
 ·rw [if_pos hd, if_pos hd, show min k 8 = 8 by omega, show min (k + 1) 8 = 8 by omega]
  exact ⟨applied_keys (by omega) (by omega) h1 h2 (by omega) hk h3 hd h5, rfl⟩
 ·rw [if_neg hd, if_neg hd]
  exact ⟨applied_great (by omega) (by omega) h1 h2 hk (by omega) h4 h5, rfl⟩
theorem stepK_ok {T q d k : Nat} (hT : 1 ≤ T) (hk : k < 8) (h1 : 1 ≤ q) (h2 : q ≤ 8) (h3 : 1 ≤ d) (h4 : d ≤ 3) (h5 : d ≤ q) : applied (skT T q d k) (indexOf (tab 0 d []) (key k d)) = .ok (skT T q d (k + 1)) ∧ ∃ u, (skT T q d (k + 1))[0]? = some u ∧ u.keys.length = k + 1 := by
 unfold skT
 rw [if_pos h4, if_pos h4, show min k 8 = k by omega, show min (k + 1) 8 = k + 1 by omega]
 refine ⟨applied_key (by omega) (by omega) h1 h2 hk h3 h4 h5, tab 0 q ((List.range (k + 1)).map fun i => key i d), ?_, by simp [tab]⟩
 simp only [schN, List.getElem?_map]
 rw [List.getElem?_range (by omega)]
 rfl
theorem tri_T {q t : Nat} (ht : t < 12) (h1 : 1 ≤ q) (h2 : q ≤ 12) : ∃ ec : Int, ((applied (sqT q t) (createOf (tab t q [])) = .ok (sqT q (t + 1)) ∧ Good (sqT q (t + 1)) ∧ ec = 0) ∨ (applied (sqT q t) (createOf (tab t q [])) = .error ec ∧ ec ≠ 0)) ∧ ((8 ≤ t ∨ 8 < q) → ec = 134 ∧ sqT q (t + 1) = sqT q t) ∧ (t < 8 → q ≤ 8 → ec = 0 ∧ (sqT q (t + 1)).length = t + 1) := by
 by_cases h : 8 ≤ t ∨ 8 < q
 ·obtain ⟨a, b⟩ := stepT_no ht h1 h2 h
  exact ⟨134, .inr ⟨a, by decide⟩, fun _ => ⟨rfl, b⟩, fun _ _ => by omega⟩
 ·obtain ⟨a, b⟩ := stepT_ok (t := t) h1 (by omega) (by omega)
  exact ⟨0, .inl ⟨a, sqT_good h1, rfl⟩, fun h' => absurd h' h, fun _ _ => ⟨rfl, b⟩⟩
theorem tri_K {T q d k : Nat} (hT : 1 ≤ T) (hk : k < 12) (h1 : 1 ≤ q) (h2 : q ≤ 8) (h3 : 1 ≤ d) (h4 : d ≤ 5) (h5 : d ≤ q) : ∃ ec : Int, ((applied (skT T q d k) (indexOf (tab 0 d []) (key k d)) = .ok (skT T q d (k + 1)) ∧ Good (skT T q d (k + 1)) ∧ ec = 0) ∨ (applied (skT T q d k) (indexOf (tab 0 d []) (key k d)) = .error ec ∧ ec ≠ 0)) ∧ ((8 ≤ k ∨ 3 < d) → ec = 134 ∧ skT T q d (k + 1) = skT T q d k) ∧ (k < 8 → d ≤ 3 → ec = 0 ∧ ∃ u, (skT T q d (k + 1))[0]? = some u ∧ u.keys.length = k + 1) := by
 by_cases h : 8 ≤ k ∨ 3 < d
 ·obtain ⟨a, b⟩ := stepK_no hT hk h1 h2 h3 h4 h5 h
  exact ⟨134, .inr ⟨a, by decide⟩, fun _ => ⟨rfl, b⟩, fun _ _ => by omega⟩
 ·obtain ⟨a, b⟩ := stepK_ok (k := k) hT (by omega) h1 h2 h3 (by omega) h5
  exact ⟨0, .inl ⟨a, skT_good hT h1 h2 h3 h5, rfl⟩, fun h' => absurd h' h, fun _ _ => ⟨rfl, b⟩⟩
end P13
namespace Go.Proofs.YtlpcdpkgnfdpeaaGreatDoor
open Go.RowKit
theorem dig_any {t : Nat} (ht : t < 12) (w : World) : Calls Tryz.prog 7 #[.int .i64 t] w fun e w' => ∃ p, w' = Xk.exw w p ∧ e = .returned (.string ⟨(P13.dig t).toArray⟩) :=
 (digits_any t (by omega) (by omega) w).mono fun e w' ⟨he, hx⟩ => by
  obtain ⟨p, rfl⟩ := Xk.exw_of hx
  exact ⟨p, rfl, by rw [he, P13.dig_eq ht]⟩
theorem dig_len (t : Nat) : (P13.dig t).length ≤ 2 := by unfold P13.dig; split <;> simp
theorem rnd_stmt {s : P13.Sch} {x : P12.St} {tx : P12.T} (hr : P13.Rnd s x tx) (W : World) (b : ByteArray) (hb : b.data.toList = tx) : Calls Tryz.prog 6 #[.string b] W fun e w' => ∃ l p, w' = Xk.exw W p ∧ e = .returned (.agg l.toArray) ∧ StmtIn (fun b => W.heap.size ≤ b) w' x l := by
 obtain rfl : b = ⟨tx.toArray⟩ := bytes_ext (by rw [hb])
 refine (stmt_any tx W hr.cr hr.pa).mono fun e w' ⟨l, he, hin, hx⟩ => ?_
 obtain ⟨p, rfl⟩ := Xk.exw_of hx
 exact ⟨l, p, rfl, he, hin⟩
theorem rnd_apply {s s' : P13.Sch} {x : P12.St} {tx : P12.T} {ec : Int} (hr : P13.Rnd s x tx) (hs' : (P13.applied s x = .ok s' ∧ P13.Good s' ∧ ec = 0) ∨ (P13.applied s x = .error ec ∧ ec ≠ 0)) {S S2 : Nat → Prop} {v : Value} {l : List Value} (W : World) (hE : Env W) (hP : EnvP W) (hs : SchAt S2 W s v) (hin : StmtIn S W x l) :
  Calls Tryz.prog 5 #[.agg #[v], .agg l.toArray] W fun e w' => ∃ p4 n4 c4 pb, w' = Xk.exw W pb ∧ e = .returned (.tuple #[.agg #[.slice p4 n4 c4], .int .i64 ec]) ∧ (ec = 0 → SchAt (fun b => W.heap.size ≤ b) (Xk.exw W pb) s' (.slice p4 n4 c4)) := by
 refine (apply_any W hs hr.good hin hr.fine.kept hr.fine.cs hr.cols hE hP (fun u h => ?_) (fun k h => ?_)).mono fun e w' h => ?_
 ·rcases hs' with ⟨h1, h2, -⟩ | ⟨h1, -⟩ <;> rw [h1] at h <;> cases h
  exact h2
 ·rcases hs' with ⟨h1, -⟩ | ⟨h1, h2⟩ <;> rw [h1] at h <;> cases h
  exact h2
 ·obtain ⟨⟨p, n, c, he, hk⟩, hx⟩ := h
  obtain ⟨q, rfl⟩ := Xk.exw_of hx
  refine ⟨p, n, c, q, rfl, ?_, fun h0 => ?_⟩
  ·rcases hs' with ⟨h1, -, h3⟩ | ⟨h1, -⟩ <;> rw [h1] at he
   ·rw [he, h3]
   ·exact he
  ·rcases hs' with ⟨h1, -⟩ | ⟨-, h2⟩
   ·exact hk _ h1
   ·exact absurd h0 h2
theorem exw_other (w : World) (o o' : Obj) (p : Regrown) {b : Nat} (h : b ≠ w.heap.size) : (Xk.exw (w.alloc o') p).heap[b]? = (Xk.exw (w.alloc o) p).heap[b]? := by
 simp only [Xk.exw, Go.Sort.grow, redrawn, World.alloc]
 rw [Array.getElem?_append, Array.getElem?_append]
 simp only [Array.size_push]
 split
 ·rw [Array.getElem?_push, Array.getElem?_push, if_neg h, if_neg h]
 ·rfl
theorem exw_at (w : World) (o : Obj) (p : Regrown) : (Xk.exw (w.alloc o) p).heap[w.heap.size]? = some o :=
 (Xk.exw_heap _ p (by rw [World.size_alloc]; omega)).trans (heap_new w o)
end Go.Proofs.YtlpcdpkgnfdpeaaGreatDoor
