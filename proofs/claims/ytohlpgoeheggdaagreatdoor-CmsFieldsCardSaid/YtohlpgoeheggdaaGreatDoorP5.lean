/- cms: signed data without certificates, lists and signers: right, its form's number, its digests; cms: the node of signed data without certificates, lists and signers; cms: the fixed signed data, written and parsed; cms: the fixed signed data, parsed; CmsFields: the fixed calls; fields and nodes, by the program as by the reference; CmsFields: its function, from the parts. -/
import Derived.Test.YtohlpgoeheggdaaGreatDoorP4
set_option linter.unusedSimpArgs false
set_option linter.unusedVariables false
set_option linter.constructorNameAsVariable false
namespace Go.Proofs.YtohlpgoeheggdaaGreatDoor
open Go Go.RowKit
set_option maxRecDepth 100000
set_option maxHeartbeats 4000000
theorem ordC_d : FnD Tryz.prog 96 [.sl 11 Crt.enc [], fnD 97, .b true] (.b true) := by
  refine FnE.intro Tryz.func96 rfl Tryz.ntmps96 rfl (fun e => ?_)
  refine W ?_
  refine Lp (γ := Unit) (fun _ => True) (fun _ => 0) (fun _ => [(0, .d (.sl 11 Crt.enc [])), (7, .d (.i 1))]) (fun _ => []) () trivial ⟨rfl, rfl, trivial⟩ trivial ?_
  rintro _ _
  refine W ?_
  exact Rt rfl rfl rfl
instance : Cn Tryz.prog 96 (type_of% @ordC_d) := ⟨@ordC_d⟩
theorem ordL_d : FnD Tryz.prog 98 [.sl 6 Cl.enc [], fnD 99, .b true] (.b true) := by
  refine FnE.intro Tryz.func98 rfl Tryz.ntmps98 rfl (fun e => ?_)
  refine W ?_
  refine Lp (γ := Unit) (fun _ => True) (fun _ => 0) (fun _ => [(0, .d (.sl 6 Cl.enc [])), (7, .d (.i 1))]) (fun _ => []) () trivial ⟨rfl, rfl, trivial⟩ trivial ?_
  rintro _ _
  refine W ?_
  exact Rt rfl rfl rfl
instance : Cn Tryz.prog 98 (type_of% @ordL_d) := ⟨@ordL_d⟩
theorem ordS_d : FnD Tryz.prog 100 [.sl 7 Sg.enc [], fnD 101, .b false] (.b true) := by
  refine FnE.intro Tryz.func100 rfl Tryz.ntmps100 rfl (fun e => ?_)
  refine W ?_
  refine Lp (γ := Unit) (fun _ => True) (fun _ => 0) (fun _ => [(0, .d (.sl 7 Sg.enc [])), (7, .d (.i 1))]) (fun _ => []) () trivial ⟨rfl, rfl, trivial⟩ trivial ?_
  rintro _ _
  refine W ?_
  exact Rt rfl rfl rfl
instance : Cn Tryz.prog 100 (type_of% @ordS_d) := ⟨@ordS_d⟩
theorem cright0_d : FnD Tryz.prog 35 [.st (Sd.enc ⟨[], false, [], [], [], []⟩)] (.b false) := by
  refine FnE.intro Tryz.func35 rfl Tryz.ntmps35 rfl (fun e => ?_)
  refine W ?_
  exact Rt rfl rfl rfl
theorem cright1_d (t c : Txt) (ht : (oidB t).isSome = true) (hl : t.length ≤ 50000000000) : FnD Tryz.prog 35 [.st (Sd.enc ⟨t, true, c, [], [], []⟩)] (.b true) := by
  have o1 := @ordL_d
  have o2 := @ordS_d
  refine FnE.intro Tryz.func35 rfl Tryz.ntmps35 rfl (fun e => ?_)
  refine W ?_
  refine Bg rfl rfl (fun g1 => ?_) (fun g1 => ?_)
  · rw [ht] at g1; cases g1
  refine W ?_
  refine Lp (γ := Unit) (fun _ => True) (fun _ => 0) (fun _ => [(1, .own 0 0), (50, .d (.i 0)), (51, .d (.i 0))]) (fun _ => [(0, .whl 51 (.st (Sd.enc ⟨t, true, c, [], [], []⟩)))]) () trivial ⟨rfl, rfl, rfl, trivial⟩ ⟨rfl, trivial⟩ ?_
  rintro _ _
  refine W ?_
  refine Lp (γ := Unit) (fun _ => True) (fun _ => 0) (fun _ => [(1, .own 0 0), (61, .d (.i 0)), (62, .d (.i 0))]) (fun _ => [(0, .whl 51 (.st (Sd.enc ⟨t, true, c, [], [], []⟩)))]) () trivial ⟨rfl, rfl, rfl, trivial⟩ ⟨rfl, trivial⟩ ?_
  rintro _ _
  refine W ?_
  refine Lp (γ := Unit) (fun _ => True) (fun _ => 0) (fun _ => [(1, .own 0 0), (72, .d (.i 0)), (73, .d (.i 0))]) (fun _ => [(0, .whl 51 (.st (Sd.enc ⟨t, true, c, [], [], []⟩)))]) () trivial ⟨rfl, rfl, rfl, trivial⟩ ⟨rfl, trivial⟩ ?_
  rintro _ _
  refine W ?_
  exact Rt rfl rfl rfl
abbrev oData : Txt := [49, 46, 50, 46, 56, 52, 48, 46, 49, 49, 51, 53, 52, 57, 46, 49, 46, 55, 46, 49]
abbrev oSigned : Txt := [49, 46, 50, 46, 56, 52, 48, 46, 49, 49, 51, 53, 52, 57, 46, 49, 46, 55, 46, 50]
theorem cversion_d (c : Txt) : FnD Tryz.prog 146 [.st (Sd.enc ⟨oData, true, c, [], [], []⟩)] (.i 1) := by
  refine FnE.intro Tryz.func146 rfl Tryz.ntmps146 rfl (fun e => ?_)
  refine W ?_
  refine Lp (γ := Unit) (fun _ => True) (fun _ => 0) (fun _ => [(10, .d (.i 0)), (11, .d (.i 0))]) (fun _ => []) () trivial ⟨rfl, rfl, trivial⟩ trivial ?_
  rintro _ _
  refine W ?_
  exact Rt rfl rfl rfl
instance : Cn Tryz.prog 146 (type_of% @cversion_d) := ⟨@cversion_d⟩
abbrev nilV : D := .v (.slice none 0 0)
theorem ins0_d : FnD Tryz.prog 254 [nilV, .i 0, .i 0, fnD 190] (.v (.tuple #[])) := by
  refine FnE.intro Tryz.func254 rfl Tryz.ntmps254 rfl (fun e => ?_)
  refine W ?_
  refine Lp (fun _ : Unit => True) (fun _ => 0) (fun _ => [(2, .d (.i 0)), (8, .d (.i 1))]) (fun _ => []) () trivial ⟨rfl, rfl, trivial⟩ trivial ?_
  rintro _ _
  refine W ?_
  exact ⟨_, _, _, rfl, rfl, rfl⟩
instance : Cn Tryz.prog 254 (type_of% @ins0_d) := ⟨@ins0_d⟩
theorem stb0_d : FnD Tryz.prog 223 [nilV, .i 0, fnD 190] (.v (.tuple #[])) := by
  refine FnE.intro Tryz.func223 rfl Tryz.ntmps223 rfl (fun e => ?_)
  refine W ?_
  refine Lp (fun _ : Unit => True) (fun _ => 0) (fun _ => [(0, .d nilV), (1, .d (.i 0)), (2, .d (fnD 190)), (6, .d (.i 20)), (7, .d (.i 0)), (8, .d (.i 20))]) (fun _ => []) () trivial ⟨rfl, rfl, rfl, rfl, rfl, rfl, trivial⟩ trivial ?_
  rintro _ _
  refine W ?_
  refine Lp (fun _ : Unit => True) (fun _ => 0) (fun _ => [(1, .d (.i 0)), (6, .d (.i 20))]) (fun _ => []) () trivial ⟨rfl, rfl, trivial⟩ trivial ?_
  rintro _ _
  refine W ?_
  exact ⟨_, _, _, rfl, rfl, rfl⟩
instance : Cn Tryz.prog 223 (type_of% @stb0_d) := ⟨@stb0_d⟩
theorem srt0_d : FnD Tryz.prog 189 [nilV, fnD 190] (.v (.tuple #[])) := by
  refine FnE.intro Tryz.func189 rfl Tryz.ntmps189 rfl (fun e => ?_)
  refine W ?_
  exact ⟨_, _, _, rfl, rfl, rfl⟩
instance : Cn Tryz.prog 189 (type_of% @srt0_d) := ⟨@srt0_d⟩
theorem set0_d : FnD Tryz.prog 123 [.nds []] (.tup [.nd (.mk 0 17 true [] []), .i 0]) := by
  have ho := @own_d [] (by simp [Nd.szL])
  refine FnE.intro Tryz.func123 rfl Tryz.ntmps123 rfl (fun e => ?_)
  refine W ?_
  refine Lp (γ := Unit) (fun _ => True) (fun _ => 0) (fun _ => [(2, .own 0 0), (4, .d nilV), (14, .d (.i 0)), (15, .d (.i 0))]) (fun _ => [(0, .var 28 [.d (.i 0), .d (.i 0), .d (.b false), .d nilV, .d nilV])]) () trivial ⟨rfl, rfl, rfl, rfl, trivial⟩ ⟨rfl, trivial⟩ ?_
  rintro _ _
  refine W ?_
  refine Lp (γ := Unit) (fun _ => True) (fun _ => 0) (fun _ => [(2, .own 0 0), (9, .own 1 0), (40, .d (.i 0)), (41, .d (.i 0))]) (fun _ => [(1, .whl 28 (.st [.i 0, .i 17, .v (.bool true), nilV, nilV])), (0, .var 28 [.d (.i 0), .d (.i 0), .d (.b false), .d nilV, .d nilV])]) () trivial ⟨rfl, rfl, rfl, rfl, trivial⟩ ⟨rfl, rfl, trivial⟩ ?_
  rintro _ _
  refine W ?_
  exact Rt rfl rfl rfl
instance : Cn Tryz.prog 123 (type_of% @set0_d) := ⟨@set0_d⟩
theorem cdigests_d (t c : Txt) (h : Bool) : FnD Tryz.prog 147 [.st (Sd.enc ⟨t, h, c, [], [], []⟩)] (.nd (.mk 0 17 true [] [])) := by
  refine FnE.intro Tryz.func147 rfl Tryz.ntmps147 rfl (fun e => ?_)
  refine W ?_
  refine Mm rfl rfl ?_
  refine W ?_
  refine Lp (γ := Unit) (fun _ => True) (fun _ => 0) (fun _ => [(2, .own 1 0), (4, .d nilV), (12, .d (.i 0)), (13, .d (.i 0))]) (fun _ => [(1, .var 28 [.d (.i 0), .d (.i 0), .d (.b false), .d nilV, .d nilV])]) () trivial ⟨rfl, rfl, rfl, rfl, trivial⟩ ⟨rfl, trivial⟩ ?_
  rintro _ _
  refine W ?_
  exact Rt rfl rfl rfl
instance : Cn Tryz.prog 147 (type_of% @cdigests_d) := ⟨@cdigests_d⟩
end Go.Proofs.YtohlpgoeheggdaaGreatDoor
namespace Go.Proofs.YtohlpgoeheggdaaGreatDoor
open Go Go.RowKit
set_option maxRecDepth 100000
set_option pp.deepTerms true
set_option pp.maxSteps 100000
set_option maxHeartbeats 4000000
theorem int_d (n : Int) : FnD Tryz.prog 59 [.i n] (.nd (.mk 0 2 false (intB n) [])) := .mk fun h vs hT hd => by
  obtain ⟨v, rfl, h1⟩ := den1 hd
  rw [den_v.1 h1]
  exact int_fn.mono fun v h' _ ⟨cs, e, r⟩ => ⟨_, rfl, by rw [e]; exact (den_nd (h := h')).2 ⟨cs, rfl, r⟩⟩
instance : Cn Tryz.prog 59 (type_of% @int_d) := ⟨@int_d⟩
theorem cseq_o (l : List Nd) (hz : Nd.szL l ≤ 1099511627776) : FnO Tryz.prog 41 28 kN [.nds l] [.i 0, .i 16, .v (.bool true), nilV] l := .mk fun h vs hT hd => by
  obtain ⟨v, rfl, h1⟩ := den1 hd
  obtain ⟨a, cc, rfl, hR⟩ := den_nds.1 h1
  have hb := hR.big
  exact (cseqo_fn hR hz).mono fun e h' Lo _ ⟨v, he, a', c', xs, e1, e2, e3⟩ => ⟨v, he, [.int .i64 0, .int .i64 16, .bool true, .slice none 0 0], a', c', xs, e1, .c rfl (den_vv (h := h')) (.c rfl (den_vv (h := h')) (.c rfl (den_vv (h := h')) (.c rfl (den_vv (h := h')) .n))), e2, e3, hb⟩
theorem cnode_d (c : Txt) (hc : c.length ≤ 1000) : FnD Tryz.prog 91 [.st (Sd.enc ⟨oData, true, c, [], [], []⟩)] (.tup [.nd (.mk 0 16 true [] [oiN oSigned, .mk 2 0 true [] [.mk 0 16 true [] [.mk 0 2 false (intB 1) [], .mk 0 17 true [] [], .mk 0 16 true [] [oiN oData, .mk 2 0 true [] [.mk 0 4 false c []]], .mk 0 17 true [] []]]]), .i 0]) := by
  have ht : (oidB oData).isSome = true := by kernel_rfl
  have hR := cright1_d oData c ht (by decide)
  have s1 : (oiN oSigned).sz ≤ 1000 := Nat.le_trans (oiN_sz _) (by decide)
  have s2 : (oiN oData).sz ≤ 1000 := Nat.le_trans (oiN_sz _) (by decide)
  have s3 : (intB 1).length ≤ 10 := by decide +kernel
  refine FnE.intro Tryz.func91 rfl Tryz.ntmps91 rfl (fun e => ?_)
  refine W ?_
  refine Co rfl rfl (cseq_o [oiN oData] (by simp only [Nd.szL]; omega)) rfl ?_
  refine W ?_
  refine Xap kN rfl rfl rfl rfl rfl rfl rfl (by simp) rfl rfl rfl ?_
  refine RX1 rfl rfl ?_
  refine JX.nil rfl ?_
  refine Nvk 4 rfl rfl rfl rfl rfl ?_
  refine Pb 4 rfl ?_
  refine W ?_
  refine Xco (K := kN) rfl rfl (cseq_o [.mk 0 2 false (intB 1) [], .mk 0 17 true [] [], .mk 0 16 true [] [oiN oData, .mk 2 0 true [] [.mk 0 4 false c []]]] (by simp only [Nd.szL, Nd.sz, List.length_nil]; omega)) rfl ?_
  refine RX1 rfl rfl ?_
  refine JX.nil rfl ?_
  refine W ?_
  refine Lp (γ := Unit) (fun _ => True) (fun _ => 0) (fun _ => [(1, .own 0 0), (2, .own 1 0), (4, .own 2 0), (9, .own 7 0), (10, .d nilV), (11, .d nilV), (12, .d nilV), (64, .d (.i 0)), (65, .d (.i 0))])
    (fun _ => [(7, .var 28 [.d (.i 0), .d (.i 16), .d (.v (.bool true)), .d nilV, .row 6]), (6, .row 28 (.nds [.mk 0 2 false (intB 1) [], .mk 0 17 true [] [], .mk 0 16 true [] [oiN oData, .mk 2 0 true [] [.mk 0 4 false c []]]])), (2, .whl 28 (.nd (oiN oSigned))), (1, .var 28 [.d (.i 0), .d (.i 0), .d (.b false), .d nilV, .d nilV]), (0, .whl 51 (.st (Sd.enc ⟨oData, true, c, [], [], []⟩)))]) () trivial ⟨rfl, rfl, rfl, rfl, rfl, rfl, rfl, rfl, rfl, trivial⟩ ⟨rfl, rfl, rfl, rfl, rfl, trivial⟩ ?_
  rintro _ _
  refine W ?_
  refine Lp (γ := Unit) (fun _ => True) (fun _ => 0) (fun _ => [(1, .own 0 0), (2, .own 1 0), (4, .own 2 0), (9, .own 7 0), (10, .d nilV), (11, .d nilV), (12, .d nilV), (81, .d (.i 0)), (82, .d (.i 0))])
    (fun _ => [(7, .var 28 [.d (.i 0), .d (.i 16), .d (.v (.bool true)), .d nilV, .row 6]), (6, .row 28 (.nds [.mk 0 2 false (intB 1) [], .mk 0 17 true [] [], .mk 0 16 true [] [oiN oData, .mk 2 0 true [] [.mk 0 4 false c []]]])), (2, .whl 28 (.nd (oiN oSigned))), (1, .var 28 [.d (.i 0), .d (.i 0), .d (.b false), .d nilV, .d nilV]), (0, .whl 51 (.st (Sd.enc ⟨oData, true, c, [], [], []⟩)))]) () trivial ⟨rfl, rfl, rfl, rfl, rfl, rfl, rfl, rfl, rfl, trivial⟩ ⟨rfl, rfl, rfl, rfl, rfl, trivial⟩ ?_
  rintro _ _
  refine W ?_
  refine Lp (γ := Unit) (fun _ => True) (fun _ => 0) (fun _ => [(1, .own 0 0), (2, .own 1 0), (4, .own 2 0), (9, .own 7 0), (10, .d nilV), (11, .d nilV), (12, .d nilV), (98, .d (.i 0)), (99, .d (.i 0))])
    (fun _ => [(7, .var 28 [.d (.i 0), .d (.i 16), .d (.v (.bool true)), .d nilV, .row 6]), (6, .row 28 (.nds [.mk 0 2 false (intB 1) [], .mk 0 17 true [] [], .mk 0 16 true [] [oiN oData, .mk 2 0 true [] [.mk 0 4 false c []]]])), (2, .whl 28 (.nd (oiN oSigned))), (1, .var 28 [.d (.i 0), .d (.i 0), .d (.b false), .d nilV, .d nilV]), (0, .whl 51 (.st (Sd.enc ⟨oData, true, c, [], [], []⟩)))]) () trivial ⟨rfl, rfl, rfl, rfl, rfl, rfl, rfl, rfl, rfl, trivial⟩ ⟨rfl, rfl, rfl, rfl, rfl, trivial⟩ ?_
  rintro _ _
  refine W ?_
  refine Xap kN rfl rfl rfl rfl rfl rfl rfl (by simp) rfl rfl rfl ?_
  refine RX1 rfl rfl ?_
  refine JX.nil rfl ?_
  refine Nvk 6 rfl rfl rfl rfl rfl ?_
  refine Pb 6 rfl ?_
  have hcs := @cons_d 2 0 [.mk 0 16 true [] [.mk 0 2 false (intB 1) [], .mk 0 17 true [] [], .mk 0 16 true [] [oiN oData, .mk 2 0 true [] [.mk 0 4 false c []]], .mk 0 17 true [] []]] (by simp only [Nd.szL, Nd.sz, List.length_nil]; omega)
  have hsq := cseq_d [oiN oSigned, .mk 2 0 true [] [.mk 0 16 true [] [.mk 0 2 false (intB 1) [], .mk 0 17 true [] [], .mk 0 16 true [] [oiN oData, .mk 2 0 true [] [.mk 0 4 false c []]], .mk 0 17 true [] []]]] (by simp only [Nd.szL, Nd.sz, List.length_nil]; omega)
  refine W ?_
  exact Rt rfl rfl rfl
instance : Cn Tryz.prog 91 (type_of% @cnode_d) := ⟨@cnode_d⟩
end Go.Proofs.YtohlpgoeheggdaaGreatDoor
namespace Go.Proofs.YtohlpgoeheggdaaGreatDoor
open Go Go.RowKit
set_option maxRecDepth 100000
set_option maxHeartbeats 4000000
abbrev kInt : Nd := .mk 0 2 false (intB 1) []
abbrev kSet : Nd := .mk 0 17 true [] []
abbrev kOct : Nd := .mk 0 4 false [5] []
abbrev kCtx : Nd := .mk 2 0 true [] [kOct]
abbrev kCon : Nd := .mk 0 16 true [] [oiN oData, kCtx]
abbrev kIn : Nd := .mk 0 16 true [] [kInt, kSet, kCon, kSet]
abbrev kMid : Nd := .mk 2 0 true [] [kIn]
abbrev kTop : Nd := .mk 0 16 true [] [oiN oSigned, kMid]
abbrev kSd : Sd := ⟨oData, true, [5], [], [], []⟩
def knB : Txt := kTop.wr.1
theorem knB_len : (knB.length : Int) = 42 := by kernel_rfl
theorem knB_1 : ((knB.getD 1 default).toNat : Int) = 40 := by kernel_rfl
theorem kTop_wr : kTop.wr = (knB, 0) := by
  have : kTop.wr.2 = 0 := by kernel_rfl
  rw [← this]; rfl
theorem kTop_sz : kTop.sz ≤ 1000 := by decide +kernel
theorem kwrite_d : FnD Tryz.prog 32 [.st kSd.enc] (.tup [.bs knB, .i 0]) := by
  have hn := cnode_d [5] (by decide)
  have hw := @write_d kTop (Nat.le_trans kTop_sz (by decide))
  rw [kTop_wr] at hw
  refine FnE.intro Tryz.func32 rfl Tryz.ntmps32 rfl (fun e => ?_)
  refine W ?_
  exact Rt rfl rfl rfl
theorem intof_d {x : Nd} (hz : x.sz ≤ 1073741824) : FnD Tryz.prog 134 [.nd x] (.tup [.i x.intV, .b x.intOk]) := .mk fun h vs hT hd => by
  obtain ⟨v, rfl, h1⟩ := den1 hd
  obtain ⟨cs, rfl, hR⟩ := den_nd.1 h1
  exact (intof_fn hR hT hz).d (den_t2 (den_vv (h := h)) ((den_bq (h := h)).2 rfl))
theorem equal_d {l r : Txt} : FnD Tryz.prog 151 [.bs l, .bs r] (.b (decide (l = r))) := .mk fun h vs hT hd => by
  obtain ⟨v, w, rfl, h1, h2⟩ := den2 hd
  obtain ⟨a, cc, rfl, hR⟩ := den_bs.1 h1
  obtain ⟨a', cc', rfl, hR'⟩ := den_bs.1 h2
  exact (bequal_fn hR hR').d ((den_bq (h := h)).2 rfl)
theorem FnD.to {P : Program} [Tb P] {Fi : Nat} {ds : List D} {d d' : D} (c : FnD P Fi ds d) (h : d = d') : FnD P Fi ds d' := h ▸ c
theorem kparts_b : FnB Tryz.prog 150 51 [] (.st [.s [], .b false, nilV, nilV, nilV, nilV]) [.nds [kInt, kSet, kCon, kSet]] (fun d d1 => d = .b true ∧ d1 = .st [.s oData, .b true, .bs [5], nilV, nilV, nilV]) := by
  have h1 : FnD Tryz.prog 48 [.nd kCon, .i 1, .i 2] (.b true) := (cisseq_d kCon 1 2).to (by rw [show isSeqB kCon 1 2 = true by kernel_rfl])
  have h2 : FnD Tryz.prog 49 [.nd (oiN oData)] (.tup [.s oData, .b true]) := (coidof_d (oiN oData) (Nat.le_trans (oiN_sz _) (by decide))).to (by rw [show cOid (oiN oData) = (oData, true) by kernel_rfl])
  have h3 : FnD Tryz.prog 77 [.nd kCtx, .i 0, .b true] (.b true) := (cisctx_d kCtx 0 true).to (by rw [show isCtxB kCtx 0 true = true by kernel_rfl])
  have h4 : FnD Tryz.prog 77 [.nd kSet, .i 0, .b true] (.b false) := (cisctx_d kSet 0 true).to (by rw [show isCtxB kSet 0 true = false by kernel_rfl])
  have h5 : FnD Tryz.prog 77 [.nd kSet, .i 1, .b true] (.b false) := (cisctx_d kSet 1 true).to (by rw [show isCtxB kSet 1 true = false by kernel_rfl])
  refine FnB.intro Tryz.func150 rfl Tryz.ntmps150 rfl (fun e b => ?_)
  refine W ?_
  refine Lp (γ := Unit) (fun _ => True) (fun _ => 0) (fun _ => [(0, .own 0 0), (7, .d (.b true)), (198, .d (.i 0)), (199, .d (.i 0))]) (fun _ => [(0, .var 51 [.d (.s oData), .d (.b true), .d (.bs [5]), .d nilV, .d nilV, .d nilV]), (1, .pin 0 b)]) () trivial ⟨rfl, rfl, rfl, rfl, trivial⟩ ⟨rfl, rfl, trivial⟩ ?_
  rintro _ _
  refine W ?_
  exact RtB 1 rfl rfl rfl rfl rfl ⟨rfl, rfl⟩
end Go.Proofs.YtohlpgoeheggdaaGreatDoor
namespace Go.Proofs.YtohlpgoeheggdaaGreatDoor
open Go Go.RowKit
set_option maxRecDepth 100000
set_option maxHeartbeats 4000000
theorem kof_d : FnD Tryz.prog 92 [.nd kTop] (.tup [.st kSd.enc, .b true]) := by
  have q1 : FnD Tryz.prog 47 [.nd kTop] (.b true) := (@right_d kTop (Nat.le_trans kTop_sz (by decide))).to (by rw [show kTop.put.isSome = true by kernel_rfl])
  have q2 : FnD Tryz.prog 48 [.nd kTop, .i 2, .i 2] (.b true) := (cisseq_d kTop 2 2).to (by rw [show isSeqB kTop 2 2 = true by kernel_rfl])
  have q3 : FnD Tryz.prog 77 [.nd kMid, .i 0, .b true] (.b true) := (cisctx_d kMid 0 true).to (by rw [show isCtxB kMid 0 true = true by kernel_rfl])
  have q4 : FnD Tryz.prog 49 [.nd (oiN oSigned)] (.tup [.s oSigned, .b true]) := (coidof_d (oiN oSigned) (Nat.le_trans (oiN_sz _) (by decide))).to (by rw [show cOid (oiN oSigned) = (oSigned, true) by kernel_rfl])
  have q5 : FnD Tryz.prog 48 [.nd kIn, .i 4, .i 6] (.b true) := (cisseq_d kIn 4 6).to (by rw [show isSeqB kIn 4 6 = true by kernel_rfl])
  have q6 := cright1_d oData [5] (by kernel_rfl) (by decide)
  have q7 : FnD Tryz.prog 134 [.nd kInt] (.tup [.i 1, .b true]) := (@intof_d kInt (by simp only [Nd.sz, Nd.szL]; have : (intB 1).length = 1 := (by kernel_rfl); omega)).to (by rw [show kInt.intV = 1 by kernel_rfl, show kInt.intOk = true by kernel_rfl])
  have q8 := cwritten_d kSet (by decide +kernel)
  have q10 := cversion_d [5]
  have q11 := cdigests_d oData [5] true
  have q9 : FnD Tryz.prog 151 [.bs kSet.wr.1, .bs kSet.wr.1] (.b true) := equal_d.to (by rw [decide_eq_true rfl])
  refine FnE.intro Tryz.func92 rfl Tryz.ntmps92 rfl (fun e => ?_)
  refine W ?_
  refine Cp (os1 := []) rfl rfl rfl rfl rfl rfl rfl kparts_b rfl ?_
  rintro _ _ ⟨rfl, rfl⟩
  refine W ?_
  exact Rt rfl rfl rfl
theorem kparse_d : FnD Tryz.prog 33 [.bs knB] (.tup [.st kSd.enc, .b true]) := by
  have ho := kof_d
  have hr : FnD Tryz.prog 37 [.bs knB] (.tup [.nd kTop, .st (Flt.enc ⟨0, 0⟩)]) := by
    have h := @read_d knB
    have e : rdTop knB = (kTop, 0, 0) := rdTop_wr (x := kTop) (by rw [kTop_wr])
    rw [e] at h; exact h
  refine FnE.intro Tryz.func33 rfl Tryz.ntmps33 rfl (fun e => ?_)
  refine W ?_
  exact Rt rfl rfl rfl
end Go.Proofs.YtohlpgoeheggdaaGreatDoor
namespace Go.Proofs.YtohlpgoeheggdaaGreatDoor
open Go Go.RowKit
set_option maxRecDepth 100000
set_option maxHeartbeats 4000000
theorem known8_d : FnD Tryz.prog 8 [] (.b true) := by
  obtain ⟨B, hw, hp, hl, h1⟩ : ∃ B : Txt, FnD Tryz.prog 32 [.st kSd.enc] (.tup [.bs B, .i 0]) ∧ FnD Tryz.prog 33 [.bs B] (.tup [.st kSd.enc, .b true]) ∧ (B.length : Int) = 42 ∧ ((B.getD 1 0).toNat : Int) = 40 := ⟨knB, kwrite_d, kparse_d, knB_len, knB_1⟩
  have hr1 := cright1_d oData [5] (by kernel_rfl) (by decide)
  have hr0 := cright0_d
  have hput := cput_d [49, 46, 50, 46, 51] [5, 0] (by decide)
  have hget : FnD Tryz.prog 23 [.sl 2 Fe.enc [⟨[49, 46, 50, 46, 51], [[5, 0]]⟩], .s [49, 46, 50, 46, 51]] (.tup [.sl 1 bE [[5, 0]], .b true]) := cget_d [⟨[49, 46, 50, 46, 51], [[5, 0]]⟩] [49, 46, 50, 46, 51] (by decide) (by intro f hf; rw [List.mem_singleton] at hf; subst hf; exact ⟨by decide, by decide⟩)
  refine FnE.intro Tryz.func8 rfl Tryz.ntmps8 rfl (fun e => ?_)
  refine W ?_
  refine Pl 0 rfl ?_
  refine W ?_
  refine Pl 2 rfl ?_
  refine W ?_
  refine Pl 2 rfl ?_
  refine W ?_
  refine Bg rfl rfl (fun _ => ?_) (fun h => absurd hl h)
  refine W ?_
  refine Bg rfl rfl (fun _ => ?_) (fun h => absurd h1 h)
  refine W ?_
  exact Rt rfl rfl rfl
end Go.Proofs.YtohlpgoeheggdaaGreatDoor
namespace Go.Proofs.YtohlpgoeheggdaaGreatDoor
open Go Go.RowKit
set_option maxRecDepth 100000
set_option maxHeartbeats 4000000
instance : Cn Tryz.prog 8 (type_of% @known8_d) := ⟨@known8_d⟩
theorem fieldof_vals (n : Nd) : (fieldOf n).1.vals.length ≤ 10 := by
  rw [field_same]; unfold fieldOfR
  split
  · simp only [fR, List.length_map, List.length_take]; omega
  · exact Nat.zero_le _
theorem cmsfields_d (f : Fe) (n : Nd) (hB : FeB f) (hb : n.okB) : FnD Tryz.prog 3 [.st f.enc, .nd n] (.b true) := by
  have hlong := long_d [f] (by simp) (by intro g hg; rw [List.mem_singleton] at hg; subst hg; exact hB)
  have hwide := wide_d n hb
  refine FnE.intro Tryz.func3 rfl Tryz.ntmps3 rfl (fun e => ?_)
  refine W ?_
  refine JLD.s1 (St1.litS (enc := Fe.enc) [f] rfl rfl rfl rfl (fun _ _ => rfl) rfl rfl rfl rfl rfl) ?_
  refine W ?_
  refine Bg rfl rfl (fun h1 => Z) (fun h1 => ?_)
  refine W ?_
  refine Ci rfl (fun h2 => Z) (fun h2 => ?_)
  have hsz := wide_sz hb (by simp only [wideB, Bool.or_eq_false_iff, decide_eq_false_iff_not] at h2; exact h2.1)
  obtain ⟨b1, b2, b3⟩ := long_one h1
  have c1 := cfieldnode_d f (by omega) (by omega) (fun v hv => by have := b3 v hv; omega)
  have c2 := rfieldnode_d f (by omega) (by omega) (fun v hv => by have := b3 v hv; omega)
  have c3 := cfieldof_d n (by omega)
  have c4 := rfieldof_d n (by omega)
  have c5 := rsame_d (x := fieldN f) (y := fieldN f)
  have c6 := samefields_d [(fieldOf n).1] [(fieldOf n).1] (by simp) (by intro g hg; rw [List.mem_singleton] at hg; subst hg; exact Nat.le_trans (fieldof_vals n) (by omega))
  rw [← field_same] at c4
  rw [(Nd.beq_eq _ _ _ (Nat.le_refl _)).2 rfl] at c5
  rw [decide_eq_true rfl] at c6
  generalize fieldN f = N at *
  generalize fieldE f = E at *
  generalize (fieldOf n).1 = G at *
  generalize (fieldOf n).2 = B at *
  refine W ?_
  refine Bg rfl rfl (fun _ => ?_) (fun h => absurd rfl h)
  refine W ?_
  refine JLD.s1 (St1.gd rfl (St1.litS (enc := Fe.enc) [G] rfl rfl rfl rfl (fun _ _ => rfl) rfl rfl rfl rfl rfl)) ?_
  refine W ?_
  refine JLD.s1 (St1.gd rfl (St1.litS (enc := Fe.enc) [G] rfl rfl rfl rfl (fun _ _ => rfl) rfl rfl rfl rfl rfl)) ?_
  refine W ?_
  cases B
  all_goals
    refine W ?_
    exact Rt rfl rfl rfl
end Go.Proofs.YtohlpgoeheggdaaGreatDoor
