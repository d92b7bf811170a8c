/- cms: signed data without certificates, lists and signers: right, its form's number, its digests; cms: the node of signed data without certificates, lists and signers; cms: the fixed signed data, written and parsed; cms: the fixed signed data, parsed; CmsFields: the fixed calls; fields and nodes, by the program as by the reference; CmsFields: its function, from the parts; CmsAsked: r08.Get; CmsAsked: bytes of fields, by the program as by the reference; CmsAsked, plain: which fields are right, by the program as by the reference; CmsAsked: which fields are right, walked; CmsAsked: which fields are right, by the reference, walked; CmsAsked: the bytes of fields, by the program as by the reference; CmsAsked: the bytes of fields, both; then the law's function; CmsAsked: its function, from the parts. -/
import Derived.Test.YtohlpgoeheggdaaGreatDoorQ4
set_option linter.unusedSimpArgs false
set_option linter.unusedVariables false
set_option linter.constructorNameAsVariable false
namespace Go.Proofs.YtohlpgoeheggdaaGreatDoor
open Go Go.RowKit
set_option maxRecDepth 100000
set_option maxHeartbeats 4000000
theorem ordC_d : FnD Tryz.prog 96 [.sl 11 Crt.enc [], fnD 97, .b true] (.b true) := by
  refine FnE.intro Tryz.func96 rfl Tryz.ntmps96 rfl (fun e => ?_)
  refine W ?_
  refine Lp (γ := Unit) (fun _ => True) (fun _ => 0) (fun _ => [(0, .d (.sl 11 Crt.enc [])), (7, .d (.i 1))]) (fun _ => []) () trivial ⟨rfl, rfl, trivial⟩ trivial ?_
  rintro _ _
  refine W ?_
  exact Rt rfl rfl rfl
instance : Cn Tryz.prog 96 (type_of% @ordC_d) := ⟨@ordC_d⟩
theorem ordL_d : FnD Tryz.prog 98 [.sl 6 Cl.enc [], fnD 99, .b true] (.b true) := by
  refine FnE.intro Tryz.func98 rfl Tryz.ntmps98 rfl (fun e => ?_)
  refine W ?_
  refine Lp (γ := Unit) (fun _ => True) (fun _ => 0) (fun _ => [(0, .d (.sl 6 Cl.enc [])), (7, .d (.i 1))]) (fun _ => []) () trivial ⟨rfl, rfl, trivial⟩ trivial ?_
  rintro _ _
  refine W ?_
  exact Rt rfl rfl rfl
instance : Cn Tryz.prog 98 (type_of% @ordL_d) := ⟨@ordL_d⟩
theorem ordS_d : FnD Tryz.prog 100 [.sl 7 Sg.enc [], fnD 101, .b false] (.b true) := by
  refine FnE.intro Tryz.func100 rfl Tryz.ntmps100 rfl (fun e => ?_)
  refine W ?_
  refine Lp (γ := Unit) (fun _ => True) (fun _ => 0) (fun _ => [(0, .d (.sl 7 Sg.enc [])), (7, .d (.i 1))]) (fun _ => []) () trivial ⟨rfl, rfl, trivial⟩ trivial ?_
  rintro _ _
  refine W ?_
  exact Rt rfl rfl rfl
instance : Cn Tryz.prog 100 (type_of% @ordS_d) := ⟨@ordS_d⟩
theorem cright0_d : FnD Tryz.prog 35 [.st (Sd.enc ⟨[], false, [], [], [], []⟩)] (.b false) := by
  refine FnE.intro Tryz.func35 rfl Tryz.ntmps35 rfl (fun e => ?_)
  refine W ?_
  exact Rt rfl rfl rfl
theorem cright1_d (t c : Txt) (ht : (oidB t).isSome = true) (hl : t.length ≤ 50000000000) : FnD Tryz.prog 35 [.st (Sd.enc ⟨t, true, c, [], [], []⟩)] (.b true) := by
  have o1 := @ordL_d
  have o2 := @ordS_d
  refine FnE.intro Tryz.func35 rfl Tryz.ntmps35 rfl (fun e => ?_)
  refine W ?_
  refine Bg rfl rfl (fun g1 => ?_) (fun g1 => ?_)
  · rw [ht] at g1; cases g1
  refine W ?_
  refine Lp (γ := Unit) (fun _ => True) (fun _ => 0) (fun _ => [(1, .own 0 0), (50, .d (.i 0)), (51, .d (.i 0))]) (fun _ => [(0, .whl 51 (.st (Sd.enc ⟨t, true, c, [], [], []⟩)))]) () trivial ⟨rfl, rfl, rfl, trivial⟩ ⟨rfl, trivial⟩ ?_
  rintro _ _
  refine W ?_
  refine Lp (γ := Unit) (fun _ => True) (fun _ => 0) (fun _ => [(1, .own 0 0), (61, .d (.i 0)), (62, .d (.i 0))]) (fun _ => [(0, .whl 51 (.st (Sd.enc ⟨t, true, c, [], [], []⟩)))]) () trivial ⟨rfl, rfl, rfl, trivial⟩ ⟨rfl, trivial⟩ ?_
  rintro _ _
  refine W ?_
  refine Lp (γ := Unit) (fun _ => True) (fun _ => 0) (fun _ => [(1, .own 0 0), (72, .d (.i 0)), (73, .d (.i 0))]) (fun _ => [(0, .whl 51 (.st (Sd.enc ⟨t, true, c, [], [], []⟩)))]) () trivial ⟨rfl, rfl, rfl, trivial⟩ ⟨rfl, trivial⟩ ?_
  rintro _ _
  refine W ?_
  exact Rt rfl rfl rfl
abbrev oData : Txt := [49, 46, 50, 46, 56, 52, 48, 46, 49, 49, 51, 53, 52, 57, 46, 49, 46, 55, 46, 49]
abbrev oSigned : Txt := [49, 46, 50, 46, 56, 52, 48, 46, 49, 49, 51, 53, 52, 57, 46, 49, 46, 55, 46, 50]
theorem cversion_d (c : Txt) : FnD Tryz.prog 146 [.st (Sd.enc ⟨oData, true, c, [], [], []⟩)] (.i 1) := by
  refine FnE.intro Tryz.func146 rfl Tryz.ntmps146 rfl (fun e => ?_)
  refine W ?_
  refine Lp (γ := Unit) (fun _ => True) (fun _ => 0) (fun _ => [(10, .d (.i 0)), (11, .d (.i 0))]) (fun _ => []) () trivial ⟨rfl, rfl, trivial⟩ trivial ?_
  rintro _ _
  refine W ?_
  exact Rt rfl rfl rfl
instance : Cn Tryz.prog 146 (type_of% @cversion_d) := ⟨@cversion_d⟩
abbrev nilV : D := .v (.slice none 0 0)
theorem ins0_d : FnD Tryz.prog 254 [nilV, .i 0, .i 0, fnD 190] (.v (.tuple #[])) := by
  refine FnE.intro Tryz.func254 rfl Tryz.ntmps254 rfl (fun e => ?_)
  refine W ?_
  refine Lp (fun _ : Unit => True) (fun _ => 0) (fun _ => [(2, .d (.i 0)), (8, .d (.i 1))]) (fun _ => []) () trivial ⟨rfl, rfl, trivial⟩ trivial ?_
  rintro _ _
  refine W ?_
  exact ⟨_, _, _, rfl, rfl, rfl⟩
instance : Cn Tryz.prog 254 (type_of% @ins0_d) := ⟨@ins0_d⟩
theorem stb0_d : FnD Tryz.prog 223 [nilV, .i 0, fnD 190] (.v (.tuple #[])) := by
  refine FnE.intro Tryz.func223 rfl Tryz.ntmps223 rfl (fun e => ?_)
  refine W ?_
  refine Lp (fun _ : Unit => True) (fun _ => 0) (fun _ => [(0, .d nilV), (1, .d (.i 0)), (2, .d (fnD 190)), (6, .d (.i 20)), (7, .d (.i 0)), (8, .d (.i 20))]) (fun _ => []) () trivial ⟨rfl, rfl, rfl, rfl, rfl, rfl, trivial⟩ trivial ?_
  rintro _ _
  refine W ?_
  refine Lp (fun _ : Unit => True) (fun _ => 0) (fun _ => [(1, .d (.i 0)), (6, .d (.i 20))]) (fun _ => []) () trivial ⟨rfl, rfl, trivial⟩ trivial ?_
  rintro _ _
  refine W ?_
  exact ⟨_, _, _, rfl, rfl, rfl⟩
instance : Cn Tryz.prog 223 (type_of% @stb0_d) := ⟨@stb0_d⟩
theorem srt0_d : FnD Tryz.prog 189 [nilV, fnD 190] (.v (.tuple #[])) := by
  refine FnE.intro Tryz.func189 rfl Tryz.ntmps189 rfl (fun e => ?_)
  refine W ?_
  exact ⟨_, _, _, rfl, rfl, rfl⟩
instance : Cn Tryz.prog 189 (type_of% @srt0_d) := ⟨@srt0_d⟩
theorem set0_d : FnD Tryz.prog 123 [.nds []] (.tup [.nd (.mk 0 17 true [] []), .i 0]) := by
  have ho := @own_d [] (by simp [Nd.szL])
  refine FnE.intro Tryz.func123 rfl Tryz.ntmps123 rfl (fun e => ?_)
  refine W ?_
  refine Lp (γ := Unit) (fun _ => True) (fun _ => 0) (fun _ => [(2, .own 0 0), (4, .d nilV), (14, .d (.i 0)), (15, .d (.i 0))]) (fun _ => [(0, .var 28 [.d (.i 0), .d (.i 0), .d (.b false), .d nilV, .d nilV])]) () trivial ⟨rfl, rfl, rfl, rfl, trivial⟩ ⟨rfl, trivial⟩ ?_
  rintro _ _
  refine W ?_
  refine Lp (γ := Unit) (fun _ => True) (fun _ => 0) (fun _ => [(2, .own 0 0), (9, .own 1 0), (40, .d (.i 0)), (41, .d (.i 0))]) (fun _ => [(1, .whl 28 (.st [.i 0, .i 17, .v (.bool true), nilV, nilV])), (0, .var 28 [.d (.i 0), .d (.i 0), .d (.b false), .d nilV, .d nilV])]) () trivial ⟨rfl, rfl, rfl, rfl, trivial⟩ ⟨rfl, rfl, trivial⟩ ?_
  rintro _ _
  refine W ?_
  exact Rt rfl rfl rfl
instance : Cn Tryz.prog 123 (type_of% @set0_d) := ⟨@set0_d⟩
theorem cdigests_d (t c : Txt) (h : Bool) : FnD Tryz.prog 147 [.st (Sd.enc ⟨t, h, c, [], [], []⟩)] (.nd (.mk 0 17 true [] [])) := by
  refine FnE.intro Tryz.func147 rfl Tryz.ntmps147 rfl (fun e => ?_)
  refine W ?_
  refine Mm rfl rfl ?_
  refine W ?_
  refine Lp (γ := Unit) (fun _ => True) (fun _ => 0) (fun _ => [(2, .own 1 0), (4, .d nilV), (12, .d (.i 0)), (13, .d (.i 0))]) (fun _ => [(1, .var 28 [.d (.i 0), .d (.i 0), .d (.b false), .d nilV, .d nilV])]) () trivial ⟨rfl, rfl, rfl, rfl, trivial⟩ ⟨rfl, trivial⟩ ?_
  rintro _ _
  refine W ?_
  exact Rt rfl rfl rfl
instance : Cn Tryz.prog 147 (type_of% @cdigests_d) := ⟨@cdigests_d⟩
end Go.Proofs.YtohlpgoeheggdaaGreatDoor
namespace Go.Proofs.YtohlpgoeheggdaaGreatDoor
open Go Go.RowKit
set_option maxRecDepth 100000
set_option pp.deepTerms true
set_option pp.maxSteps 100000
set_option maxHeartbeats 4000000
theorem int_d (n : Int) : FnD Tryz.prog 59 [.i n] (.nd (.mk 0 2 false (intB n) [])) := .mk fun h vs hT hd => by
  obtain ⟨v, rfl, h1⟩ := den1 hd
  rw [den_v.1 h1]
  exact int_fn.mono fun v h' _ ⟨cs, e, r⟩ => ⟨_, rfl, by rw [e]; exact (den_nd (h := h')).2 ⟨cs, rfl, r⟩⟩
instance : Cn Tryz.prog 59 (type_of% @int_d) := ⟨@int_d⟩
theorem cseq_o (l : List Nd) (hz : Nd.szL l ≤ 1099511627776) : FnO Tryz.prog 41 28 kN [.nds l] [.i 0, .i 16, .v (.bool true), nilV] l := .mk fun h vs hT hd => by
  obtain ⟨v, rfl, h1⟩ := den1 hd
  obtain ⟨a, cc, rfl, hR⟩ := den_nds.1 h1
  have hb := hR.big
  exact (cseqo_fn hR hz).mono fun e h' Lo _ ⟨v, he, a', c', xs, e1, e2, e3⟩ => ⟨v, he, [.int .i64 0, .int .i64 16, .bool true, .slice none 0 0], a', c', xs, e1, .c rfl (den_vv (h := h')) (.c rfl (den_vv (h := h')) (.c rfl (den_vv (h := h')) (.c rfl (den_vv (h := h')) .n))), e2, e3, hb⟩
theorem cnode_d (c : Txt) (hc : c.length ≤ 1000) : FnD Tryz.prog 91 [.st (Sd.enc ⟨oData, true, c, [], [], []⟩)] (.tup [.nd (.mk 0 16 true [] [oiN oSigned, .mk 2 0 true [] [.mk 0 16 true [] [.mk 0 2 false (intB 1) [], .mk 0 17 true [] [], .mk 0 16 true [] [oiN oData, .mk 2 0 true [] [.mk 0 4 false c []]], .mk 0 17 true [] []]]]), .i 0]) := by
  have ht : (oidB oData).isSome = true := by kernel_rfl
  have hR := cright1_d oData c ht (by decide)
  have s1 : (oiN oSigned).sz ≤ 1000 := Nat.le_trans (oiN_sz _) (by decide)
  have s2 : (oiN oData).sz ≤ 1000 := Nat.le_trans (oiN_sz _) (by decide)
  have s3 : (intB 1).length ≤ 10 := by decide +kernel
  refine FnE.intro Tryz.func91 rfl Tryz.ntmps91 rfl (fun e => ?_)
  refine W ?_
  refine Co rfl rfl (cseq_o [oiN oData] (by simp only [Nd.szL]; omega)) rfl ?_
  refine W ?_
  refine Xap kN rfl rfl rfl rfl rfl rfl rfl (by simp) rfl rfl rfl ?_
  refine RX1 rfl rfl ?_
  refine JX.nil rfl ?_
  refine Nvk 4 rfl rfl rfl rfl rfl ?_
  refine Pb 4 rfl ?_
  refine W ?_
  refine Xco (K := kN) rfl rfl (cseq_o [.mk 0 2 false (intB 1) [], .mk 0 17 true [] [], .mk 0 16 true [] [oiN oData, .mk 2 0 true [] [.mk 0 4 false c []]]] (by simp only [Nd.szL, Nd.sz, List.length_nil]; omega)) rfl ?_
  refine RX1 rfl rfl ?_
  refine JX.nil rfl ?_
  refine W ?_
  refine Lp (γ := Unit) (fun _ => True) (fun _ => 0) (fun _ => [(1, .own 0 0), (2, .own 1 0), (4, .own 2 0), (9, .own 7 0), (10, .d nilV), (11, .d nilV), (12, .d nilV), (64, .d (.i 0)), (65, .d (.i 0))])
    (fun _ => [(7, .var 28 [.d (.i 0), .d (.i 16), .d (.v (.bool true)), .d nilV, .row 6]), (6, .row 28 (.nds [.mk 0 2 false (intB 1) [], .mk 0 17 true [] [], .mk 0 16 true [] [oiN oData, .mk 2 0 true [] [.mk 0 4 false c []]]])), (2, .whl 28 (.nd (oiN oSigned))), (1, .var 28 [.d (.i 0), .d (.i 0), .d (.b false), .d nilV, .d nilV]), (0, .whl 51 (.st (Sd.enc ⟨oData, true, c, [], [], []⟩)))]) () trivial ⟨rfl, rfl, rfl, rfl, rfl, rfl, rfl, rfl, rfl, trivial⟩ ⟨rfl, rfl, rfl, rfl, rfl, trivial⟩ ?_
  rintro _ _
  refine W ?_
  refine Lp (γ := Unit) (fun _ => True) (fun _ => 0) (fun _ => [(1, .own 0 0), (2, .own 1 0), (4, .own 2 0), (9, .own 7 0), (10, .d nilV), (11, .d nilV), (12, .d nilV), (81, .d (.i 0)), (82, .d (.i 0))])
    (fun _ => [(7, .var 28 [.d (.i 0), .d (.i 16), .d (.v (.bool true)), .d nilV, .row 6]), (6, .row 28 (.nds [.mk 0 2 false (intB 1) [], .mk 0 17 true [] [], .mk 0 16 true [] [oiN oData, .mk 2 0 true [] [.mk 0 4 false c []]]])), (2, .whl 28 (.nd (oiN oSigned))), (1, .var 28 [.d (.i 0), .d (.i 0), .d (.b false), .d nilV, .d nilV]), (0, .whl 51 (.st (Sd.enc ⟨oData, true, c, [], [], []⟩)))]) () trivial ⟨rfl, rfl, rfl, rfl, rfl, rfl, rfl, rfl, rfl, trivial⟩ ⟨rfl, rfl, rfl, rfl, rfl, trivial⟩ ?_
  rintro _ _
  refine W ?_
  refine Lp (γ := Unit) (fun _ => True) (fun _ => 0) (fun _ => [(1, .own 0 0), (2, .own 1 0), (4, .own 2 0), (9, .own 7 0), (10, .d nilV), (11, .d nilV), (12, .d nilV), (98, .d (.i 0)), (99, .d (.i 0))])
    (fun _ => [(7, .var 28 [.d (.i 0), .d (.i 16), .d (.v (.bool true)), .d nilV, .row 6]), (6, .row 28 (.nds [.mk 0 2 false (intB 1) [], .mk 0 17 true [] [], .mk 0 16 true [] [oiN oData, .mk 2 0 true [] [.mk 0 4 false c []]]])), (2, .whl 28 (.nd (oiN oSigned))), (1, .var 28 [.d (.i 0), .d (.i 0), .d (.b false), .d nilV, .d nilV]), (0, .whl 51 (.st (Sd.enc ⟨oData, true, c, [], [], []⟩)))]) () trivial ⟨rfl, rfl, rfl, rfl, rfl, rfl, rfl, rfl, rfl, trivial⟩ ⟨rfl, rfl, rfl, rfl, rfl, trivial⟩ ?_
  rintro _ _
  refine W ?_
  refine Xap kN rfl rfl rfl rfl rfl rfl rfl (by simp) rfl rfl rfl ?_
  refine RX1 rfl rfl ?_
  refine JX.nil rfl ?_
  refine Nvk 6 rfl rfl rfl rfl rfl ?_
  refine Pb 6 rfl ?_
  have hcs := @cons_d 2 0 [.mk 0 16 true [] [.mk 0 2 false (intB 1) [], .mk 0 17 true [] [], .mk 0 16 true [] [oiN oData, .mk 2 0 true [] [.mk 0 4 false c []]], .mk 0 17 true [] []]] (by simp only [Nd.szL, Nd.sz, List.length_nil]; omega)
  have hsq := cseq_d [oiN oSigned, .mk 2 0 true [] [.mk 0 16 true [] [.mk 0 2 false (intB 1) [], .mk 0 17 true [] [], .mk 0 16 true [] [oiN oData, .mk 2 0 true [] [.mk 0 4 false c []]], .mk 0 17 true [] []]]] (by simp only [Nd.szL, Nd.sz, List.length_nil]; omega)
  refine W ?_
  exact Rt rfl rfl rfl
instance : Cn Tryz.prog 91 (type_of% @cnode_d) := ⟨@cnode_d⟩
end Go.Proofs.YtohlpgoeheggdaaGreatDoor
namespace Go.Proofs.YtohlpgoeheggdaaGreatDoor
open Go Go.RowKit
set_option maxRecDepth 100000
set_option maxHeartbeats 4000000
abbrev kInt : Nd := .mk 0 2 false (intB 1) []
abbrev kSet : Nd := .mk 0 17 true [] []
abbrev kOct : Nd := .mk 0 4 false [5] []
abbrev kCtx : Nd := .mk 2 0 true [] [kOct]
abbrev kCon : Nd := .mk 0 16 true [] [oiN oData, kCtx]
abbrev kIn : Nd := .mk 0 16 true [] [kInt, kSet, kCon, kSet]
abbrev kMid : Nd := .mk 2 0 true [] [kIn]
abbrev kTop : Nd := .mk 0 16 true [] [oiN oSigned, kMid]
abbrev kSd : Sd := ⟨oData, true, [5], [], [], []⟩
def knB : Txt := kTop.wr.1
theorem knB_len : (knB.length : Int) = 42 := by kernel_rfl
theorem knB_1 : ((knB.getD 1 default).toNat : Int) = 40 := by kernel_rfl
theorem kTop_wr : kTop.wr = (knB, 0) := by
  have : kTop.wr.2 = 0 := by kernel_rfl
  rw [← this]; rfl
theorem kTop_sz : kTop.sz ≤ 1000 := by decide +kernel
theorem kwrite_d : FnD Tryz.prog 32 [.st kSd.enc] (.tup [.bs knB, .i 0]) := by
  have hn := cnode_d [5] (by decide)
  have hw := @write_d kTop (Nat.le_trans kTop_sz (by decide))
  rw [kTop_wr] at hw
  refine FnE.intro Tryz.func32 rfl Tryz.ntmps32 rfl (fun e => ?_)
  refine W ?_
  exact Rt rfl rfl rfl
theorem intof_d {x : Nd} (hz : x.sz ≤ 1073741824) : FnD Tryz.prog 134 [.nd x] (.tup [.i x.intV, .b x.intOk]) := .mk fun h vs hT hd => by
  obtain ⟨v, rfl, h1⟩ := den1 hd
  obtain ⟨cs, rfl, hR⟩ := den_nd.1 h1
  exact (intof_fn hR hT hz).d (den_t2 (den_vv (h := h)) ((den_bq (h := h)).2 rfl))
theorem equal_d {l r : Txt} : FnD Tryz.prog 151 [.bs l, .bs r] (.b (decide (l = r))) := .mk fun h vs hT hd => by
  obtain ⟨v, w, rfl, h1, h2⟩ := den2 hd
  obtain ⟨a, cc, rfl, hR⟩ := den_bs.1 h1
  obtain ⟨a', cc', rfl, hR'⟩ := den_bs.1 h2
  exact (bequal_fn hR hR').d ((den_bq (h := h)).2 rfl)
theorem FnD.to {P : Program} [Tb P] {Fi : Nat} {ds : List D} {d d' : D} (c : FnD P Fi ds d) (h : d = d') : FnD P Fi ds d' := h ▸ c
theorem kparts_b : FnB Tryz.prog 150 51 [] (.st [.s [], .b false, nilV, nilV, nilV, nilV]) [.nds [kInt, kSet, kCon, kSet]] (fun d d1 => d = .b true ∧ d1 = .st [.s oData, .b true, .bs [5], nilV, nilV, nilV]) := by
  have h1 : FnD Tryz.prog 48 [.nd kCon, .i 1, .i 2] (.b true) := (cisseq_d kCon 1 2).to (by rw [show isSeqB kCon 1 2 = true by kernel_rfl])
  have h2 : FnD Tryz.prog 49 [.nd (oiN oData)] (.tup [.s oData, .b true]) := (coidof_d (oiN oData) (Nat.le_trans (oiN_sz _) (by decide))).to (by rw [show cOid (oiN oData) = (oData, true) by kernel_rfl])
  have h3 : FnD Tryz.prog 77 [.nd kCtx, .i 0, .b true] (.b true) := (cisctx_d kCtx 0 true).to (by rw [show isCtxB kCtx 0 true = true by kernel_rfl])
  have h4 : FnD Tryz.prog 77 [.nd kSet, .i 0, .b true] (.b false) := (cisctx_d kSet 0 true).to (by rw [show isCtxB kSet 0 true = false by kernel_rfl])
  have h5 : FnD Tryz.prog 77 [.nd kSet, .i 1, .b true] (.b false) := (cisctx_d kSet 1 true).to (by rw [show isCtxB kSet 1 true = false by kernel_rfl])
  refine FnB.intro Tryz.func150 rfl Tryz.ntmps150 rfl (fun e b => ?_)
  refine W ?_
  refine Lp (γ := Unit) (fun _ => True) (fun _ => 0) (fun _ => [(0, .own 0 0), (7, .d (.b true)), (198, .d (.i 0)), (199, .d (.i 0))]) (fun _ => [(0, .var 51 [.d (.s oData), .d (.b true), .d (.bs [5]), .d nilV, .d nilV, .d nilV]), (1, .pin 0 b)]) () trivial ⟨rfl, rfl, rfl, rfl, trivial⟩ ⟨rfl, rfl, trivial⟩ ?_
  rintro _ _
  refine W ?_
  exact RtB 1 rfl rfl rfl rfl rfl ⟨rfl, rfl⟩
end Go.Proofs.YtohlpgoeheggdaaGreatDoor
namespace Go.Proofs.YtohlpgoeheggdaaGreatDoor
open Go Go.RowKit
set_option maxRecDepth 100000
set_option maxHeartbeats 4000000
theorem kof_d : FnD Tryz.prog 92 [.nd kTop] (.tup [.st kSd.enc, .b true]) := by
  have q1 : FnD Tryz.prog 47 [.nd kTop] (.b true) := (@right_d kTop (Nat.le_trans kTop_sz (by decide))).to (by rw [show kTop.put.isSome = true by kernel_rfl])
  have q2 : FnD Tryz.prog 48 [.nd kTop, .i 2, .i 2] (.b true) := (cisseq_d kTop 2 2).to (by rw [show isSeqB kTop 2 2 = true by kernel_rfl])
  have q3 : FnD Tryz.prog 77 [.nd kMid, .i 0, .b true] (.b true) := (cisctx_d kMid 0 true).to (by rw [show isCtxB kMid 0 true = true by kernel_rfl])
  have q4 : FnD Tryz.prog 49 [.nd (oiN oSigned)] (.tup [.s oSigned, .b true]) := (coidof_d (oiN oSigned) (Nat.le_trans (oiN_sz _) (by decide))).to (by rw [show cOid (oiN oSigned) = (oSigned, true) by kernel_rfl])
  have q5 : FnD Tryz.prog 48 [.nd kIn, .i 4, .i 6] (.b true) := (cisseq_d kIn 4 6).to (by rw [show isSeqB kIn 4 6 = true by kernel_rfl])
  have q6 := cright1_d oData [5] (by kernel_rfl) (by decide)
  have q7 : FnD Tryz.prog 134 [.nd kInt] (.tup [.i 1, .b true]) := (@intof_d kInt (by simp only [Nd.sz, Nd.szL]; have : (intB 1).length = 1 := (by kernel_rfl); omega)).to (by rw [show kInt.intV = 1 by kernel_rfl, show kInt.intOk = true by kernel_rfl])
  have q8 := cwritten_d kSet (by decide +kernel)
  have q10 := cversion_d [5]
  have q11 := cdigests_d oData [5] true
  have q9 : FnD Tryz.prog 151 [.bs kSet.wr.1, .bs kSet.wr.1] (.b true) := equal_d.to (by rw [decide_eq_true rfl])
  refine FnE.intro Tryz.func92 rfl Tryz.ntmps92 rfl (fun e => ?_)
  refine W ?_
  refine Cp (os1 := []) rfl rfl rfl rfl rfl rfl rfl kparts_b rfl ?_
  rintro _ _ ⟨rfl, rfl⟩
  refine W ?_
  exact Rt rfl rfl rfl
theorem kparse_d : FnD Tryz.prog 33 [.bs knB] (.tup [.st kSd.enc, .b true]) := by
  have ho := kof_d
  have hr : FnD Tryz.prog 37 [.bs knB] (.tup [.nd kTop, .st (Flt.enc ⟨0, 0⟩)]) := by
    have h := @read_d knB
    have e : rdTop knB = (kTop, 0, 0) := rdTop_wr (x := kTop) (by rw [kTop_wr])
    rw [e] at h; exact h
  refine FnE.intro Tryz.func33 rfl Tryz.ntmps33 rfl (fun e => ?_)
  refine W ?_
  exact Rt rfl rfl rfl
end Go.Proofs.YtohlpgoeheggdaaGreatDoor
namespace Go.Proofs.YtohlpgoeheggdaaGreatDoor
open Go Go.RowKit
set_option maxRecDepth 100000
set_option maxHeartbeats 4000000
theorem known8_d : FnD Tryz.prog 8 [] (.b true) := by
  obtain ⟨B, hw, hp, hl, h1⟩ : ∃ B : Txt, FnD Tryz.prog 32 [.st kSd.enc] (.tup [.bs B, .i 0]) ∧ FnD Tryz.prog 33 [.bs B] (.tup [.st kSd.enc, .b true]) ∧ (B.length : Int) = 42 ∧ ((B.getD 1 0).toNat : Int) = 40 := ⟨knB, kwrite_d, kparse_d, knB_len, knB_1⟩
  have hr1 := cright1_d oData [5] (by kernel_rfl) (by decide)
  have hr0 := cright0_d
  have hput := cput_d [49, 46, 50, 46, 51] [5, 0] (by decide)
  have hget : FnD Tryz.prog 23 [.sl 2 Fe.enc [⟨[49, 46, 50, 46, 51], [[5, 0]]⟩], .s [49, 46, 50, 46, 51]] (.tup [.sl 1 bE [[5, 0]], .b true]) := cget_d [⟨[49, 46, 50, 46, 51], [[5, 0]]⟩] [49, 46, 50, 46, 51] (by decide) (by intro f hf; rw [List.mem_singleton] at hf; subst hf; exact ⟨by decide, by decide⟩)
  refine FnE.intro Tryz.func8 rfl Tryz.ntmps8 rfl (fun e => ?_)
  refine W ?_
  refine Pl 0 rfl ?_
  refine W ?_
  refine Pl 2 rfl ?_
  refine W ?_
  refine Pl 2 rfl ?_
  refine W ?_
  refine Bg rfl rfl (fun _ => ?_) (fun h => absurd hl h)
  refine W ?_
  refine Bg rfl rfl (fun _ => ?_) (fun h => absurd h1 h)
  refine W ?_
  exact Rt rfl rfl rfl
end Go.Proofs.YtohlpgoeheggdaaGreatDoor
namespace Go.Proofs.YtohlpgoeheggdaaGreatDoor
open Go Go.RowKit
set_option maxRecDepth 100000
set_option maxHeartbeats 4000000
instance : Cn Tryz.prog 8 (type_of% @known8_d) := ⟨@known8_d⟩
end Go.Proofs.YtohlpgoeheggdaaGreatDoor
namespace Go.Proofs.YtohlpgoeheggdaaGreatDoor
open Go Go.RowKit
set_option maxRecDepth 100000
set_option maxHeartbeats 4000000
theorem rget_d (l : List Fe) (o : Txt) (hl : l.length ≤ 140737488355328) : FnD Tryz.prog 24 [.sl 2 Fe.enc l, .s o] (.tup [.sl 1 bE (getF l o).1, .b (getF l o).2]) := by
  refine FnE.intro Tryz.func24 rfl Tryz.ntmps24 rfl (fun e => ?_)
  refine W ?_
  refine Lp (γ := Nat) (fun g => g ≤ l.length ∧ getF l o = getF (l.drop g) o) (fun g => l.length + 1 - g) (fun g => [(0, .d (.sl 2 Fe.enc l)), (1, .d (.s o)), (6, .d (.i (g : Int)))]) (fun _ => []) 0 ⟨by omega, rfl⟩ ⟨rfl, rfl, rfl, trivial⟩ trivial ?_
  rintro g ⟨hg, hf⟩
  refine W ?_
  refine Ci rfl (fun h => ?_) (fun h => ?_)
  · have hlt : g < l.length := by omega
    have hget : l.getD g default = l[g] := getD_at hlt
    have hdr : l.drop g = l.getD g default :: l.drop (g + 1) := by rw [List.drop_eq_getElem_cons hlt, hget]
    rw [hdr] at hf
    refine W ?_
    refine Ci rfl (fun h2 => ?_) (fun h2 => ?_)
    · have hgf : getF l o = ((l.getD g default).vals, true) := by
        rw [hf]
        unfold getF
        rw [List.find?_cons, decide_eq_true h2]
      refine W ?_
      refine Rt rfl rfl ?_
      rw [hgf]; rfl
    · refine W ?_
      refine ⟨g + 1, by omega, ⟨by omega, ?_⟩, ⟨rfl, rfl, rfl, trivial⟩, trivial⟩
      rw [hf]
      unfold getF
      rw [List.find?_cons, decide_eq_false h2]
  · refine W ?_
    refine Rt rfl rfl ?_
    rw [hf, List.drop_of_length_le (by omega)]; rfl
instance : Cn Tryz.prog 24 (type_of% @rget_d) := ⟨@rget_d⟩
end Go.Proofs.YtohlpgoeheggdaaGreatDoor
namespace Go.Proofs.YtohlpgoeheggdaaGreatDoor
open Go Go.RowKit
set_option maxRecDepth 100000
set_option maxHeartbeats 4000000
def FeS (f : Fe) : Prop := f.oid.length ≤ 6000 ∧ f.vals.length ≤ 6000 ∧ ∀ v ∈ f.vals, v.length ≤ 6000
theorem fieldN_sz {f : Fe} (h : FeS f) : (fieldN f).sz ≤ 1000000 := by
  unfold fieldN
  cases hb : fnOk f with
  | false => simp [ndZ0, Nd.sz, Nd.szL]
  | true =>
    have h8 : f.vals.length ≤ 8 := by
      simp only [fnOk, Bool.and_eq_true, decide_eq_true_eq] at hb
      omega
    have h1 := szl_rd 6000 f.vals h.2.2
    have h2 : Nd.szL (f.vals.map fun v => (rdTop v).1) ≤ 8 * 6001 := Nat.le_trans h1 (Nat.mul_le_mul_right _ h8)
    have h3 := oiN_sz f.oid
    have h4 := h.1
    simp only [if_true, setN, Nd.sz, Nd.szL, List.length_nil]
    omega
def fbP (f : Fe) : Txt := if fieldE f ≠ 0 then [] else (fieldN f).wr.1
def fbR (f : Fe) : Txt := if fieldE f ≠ 0 then [] else (fieldN f).put.getD []
theorem cfieldbytes_d (f : Fe) (h : FeS f) : FnD Tryz.prog 89 [.st f.enc] (.bs (fbP f)) := by
  have hz := fieldN_sz h
  have hc := cfieldnode_d f (Nat.le_trans h.1 (by omega)) (Nat.le_trans h.2.1 (by omega)) (fun v hv => Nat.le_trans (h.2.2 v hv) (by omega))
  unfold fbP
  exact FnE.intro Tryz.func89 rfl Tryz.ntmps89 rfl (fun e => Z)
instance : Cn Tryz.prog 89 (type_of% @cfieldbytes_d) := ⟨@cfieldbytes_d⟩
theorem rbytesof_d (n : Nd) (hz : n.sz ≤ 10000000) : FnD Tryz.prog 86 [.nd n] (.bs (n.put.getD [])) := by
  exact FnE.intro Tryz.func86 rfl Tryz.ntmps86 rfl (fun e => Z)
instance : Cn Tryz.prog 86 (type_of% @rbytesof_d) := ⟨@rbytesof_d⟩
theorem rfieldbytes_d (f : Fe) (h : FeS f) : FnD Tryz.prog 90 [.st f.enc] (.bs (fbR f)) := by
  have hz := fieldN_sz h
  have hc := rfieldnode_d f (Nat.le_trans h.1 (by omega)) (Nat.le_trans h.2.1 (by omega)) (fun v hv => Nat.le_trans (h.2.2 v hv) (by omega))
  unfold fbR
  exact FnE.intro Tryz.func90 rfl Tryz.ntmps90 rfl (fun e => Z)
instance : Cn Tryz.prog 90 (type_of% @rfieldbytes_d) := ⟨@rfieldbytes_d⟩
theorem map_getD {l : List Fe} {i : Nat} (h : i < l.length) : (l.map fbP).getD i [] = fbP (l.getD i default) := by
  rw [getD_at (by rw [List.length_map]; exact h), List.getElem_map, getD_at h]
theorem fes_at {l : List Fe} (hB : ∀ f ∈ l, FeS f) (i : Nat) : FeS (l.getD i default) := by
  by_cases h : i < l.length
  · rw [getD_at h]; exact hB _ (List.getElem_mem h)
  · rw [List.getD_eq_getElem?_getD, List.getElem?_eq_none (by omega)]
    exact ⟨Nat.zero_le _, Nat.zero_le _, fun v hv => by cases hv⟩
theorem corderedf_d (l : List Fe) (hl : l.length ≤ 1073741824) (hB : ∀ f ∈ l, FeS f) : FnD Tryz.prog 88 [.sl 2 Fe.enc l, fnD 89, .b false] (.b (ordB (l.map fbP))) := by
  have hs := fes_at hB
  refine FnE.intro Tryz.func88 rfl Tryz.ntmps88 rfl (fun e => ?_)
  refine W ?_
  refine Lp (γ := Nat) (fun g => (g = 0 ∨ g + 1 ≤ l.length) ∧ OrdK (l.map fbP) g) (fun g => l.length + 1 - g) (fun g => [(0, .d (.sl 2 Fe.enc l)), (1, .d (fnD 89)), (2, .d (.b false)), (7, .d (.i ((g : Int) + 1)))]) (fun _ => []) 0 ⟨.inl rfl, fun j hj => by omega⟩ ⟨rfl, rfl, rfl, rfl, trivial⟩ trivial ?_
  rintro g ⟨hg, ho⟩
  have c1 := cfieldbytes_d (l.getD ((g : Int) + 1 - 1).toNat default) (hs _)
  have c2 := cfieldbytes_d (l.getD (g + 1) default) (hs _)
  refine W ?_
  refine Ci rfl (fun h => ?_) (fun h => ?_)
  · refine W ?_
    have hgg : ((g : Int) + 1 - 1).toNat = g := by omega
    refine Bg rfl rfl (fun h2 => ?_) (fun h2 => ?_)
    · rw [hgg, ← map_getD (by omega), ← map_getD (by omega)] at h2
      have hb : ordB (l.map fbP) = false := by
        refine decide_eq_false fun hh => hh g (by rw [List.length_map]; omega) h2
      refine W ?_
      refine Rt rfl rfl ?_
      rw [hb]; rfl
    rw [hgg, ← map_getD (by omega), ← map_getD (by omega)] at h2
    refine W ?_
    refine Bg rfl rfl (fun h3 => ?_) (fun h3 => ?_)
    all_goals
      refine W ?_
      first | exact ⟨g + 1, by omega, ⟨.inr (by omega), ordk_step ho h2⟩, ⟨rfl, rfl, rfl, rfl, trivial⟩, trivial⟩ | (refine Ci rfl (fun h => by cases h) (fun _ => ?_); refine W ?_; exact ⟨g + 1, by omega, ⟨.inr (by omega), ordk_step ho h2⟩, ⟨rfl, rfl, rfl, rfl, trivial⟩, trivial⟩)
  · have hb : ordB (l.map fbP) = true := decide_eq_true fun j hj => ho j (by rw [List.length_map] at hj; omega)
    refine W ?_
    refine Rt rfl rfl ?_
    rw [hb]; rfl
instance : Cn Tryz.prog 88 (type_of% @corderedf_d) := ⟨@corderedf_d⟩
end Go.Proofs.YtohlpgoeheggdaaGreatDoor
namespace Go.Proofs.YtohlpgoeheggdaaGreatDoor
open Go Go.RowKit
theorem fieldN_put {f : Fe} (h : fnOk f = true) : (fieldN f).put.isSome = true := by
  have h' := h
  simp only [fnOk, Bool.and_eq_true, decide_eq_true_eq] at h'
  obtain ⟨⟨⟨⟨h1, h2⟩, h3⟩, h4⟩, h5⟩ := h'
  have hp : ∀ v ∈ f.vals, (rdTop v).1.put = some v := fun v hv => by
    have h6 := List.all_eq_true.1 h4 v hv
    simp only [fldV, Bool.and_eq_true, decide_eq_true_eq] at h6
    have h7 := rd_wr h6.1
    have h8 := wr_put (n := (rdTop v).1) (by rw [h7])
    rw [h7] at h8; exact h8
  have e1 : (f.vals.map fun v => (rdTop v).1).map (fun k => k.put.getD []) = f.vals := by
    rw [List.map_map]
    conv => rhs; rw [← List.map_id f.vals]
    exact List.map_congr_left fun v hv => by simp only [Function.comp, hp v hv]; rfl
  have e2 : (f.vals.map fun v => (rdTop v).1).all (·.put.isSome) = true := by
    rw [List.all_map, List.all_eq_true]
    intro v hv
    simp only [Function.comp, hp v hv]; rfl
  unfold fieldN
  rw [if_pos h, put_seq, List.all_cons, oiN_put h1, List.all_cons]
  unfold setN
  rw [put_set, e2, e1, h5]; rfl
theorem rkL_le {B : Nat} : ∀ {l : List Nd}, (∀ k ∈ l, k.rk ≤ B) → Nd.rkL l ≤ B
  | [], _ => by simp [Nd.rkL]
  | k :: r, h => by
    have h1 := h k (List.mem_cons_self ..)
    have h2 := rkL_le (l := r) fun k hk => h k (List.mem_cons_of_mem _ hk)
    simp only [Nd.rkL]; omega
theorem fieldN_rk {f : Fe} (h : fnOk f = true) : (fieldN f).rk ≤ 30 := by
  have h' := h
  simp only [fnOk, Bool.and_eq_true, decide_eq_true_eq] at h'
  obtain ⟨⟨⟨⟨h1, h2⟩, h3⟩, h4⟩, h5⟩ := h'
  have hv : Nd.rkL (f.vals.map fun v => (rdTop v).1) ≤ 20 := rkL_le fun k hk => by
    obtain ⟨v, hv, rfl⟩ := List.mem_map.1 hk
    have h6 := List.all_eq_true.1 h4 v hv
    simp only [fldV, Bool.and_eq_true, decide_eq_true_eq] at h6
    omega
  unfold fieldN
  rw [if_pos h]
  simp only [setN, Nd.rk, Nd.rkL]
  have : (oiN f.oid).rk = 1 := by unfold oiN; first | rfl | simp [Nd.rk, Nd.rkL]
  omega
theorem fieldN_wr {f : Fe} (hs : FeS f) (h : fnOk f = true) : (fieldN f).wr = ((fieldN f).put.getD [], 0) ∧ 2 ≤ ((fieldN f).put.getD []).length := by
  obtain ⟨b, hb⟩ := Option.isSome_iff_exists.1 (fieldN_put h)
  have h1 := fieldN_sz hs
  have h2 := Nd.put_len _ (fieldN f) b (Nat.le_refl _) hb
  have h3 := fieldN_rk h
  rw [hb]
  refine ⟨?_, h2.1⟩
  unfold Nd.wr
  rw [hb]
  simp only
  rw [if_neg (by omega), if_neg (by omega)]; rfl
theorem fb_same {f : Fe} (hs : FeS f) : fbP f = fbR f := by
  unfold fbP fbR
  by_cases h : fieldE f = 0
  · rw [if_neg (by simp [h]), if_neg (by simp [h]), (fieldN_wr hs (fieldE_ok.1 h)).1]
  · rw [if_pos h, if_pos h]
theorem fb_len {f : Fe} (hs : FeS f) : (fbR f).length = 0 ↔ fieldE f ≠ 0 := by
  unfold fbR
  by_cases h : fieldE f = 0
  · have := (fieldN_wr hs (fieldE_ok.1 h)).2
    rw [if_neg (by simp [h])]
    exact ⟨fun hh => by omega, fun hh => absurd h hh⟩
  · rw [if_pos h]; exact ⟨fun _ => h, fun _ => rfl⟩
def seenP : List Txt → List Fe → Bool
  | _, [] => true
  | es, f :: r => if fieldE f ≠ 0 then false else if (es.any fun t => decide (t = f.oid)) = true then false else seenP (es ++ [f.oid]) r
def rfP (l : List Fe) : Bool := if 16 < (l.length : Int) then false else if ordB (l.map fbP) = false then false else seenP [] l
def refP : Nat → List Txt → Txt → List Fe → Bool
  | _, _, _, [] => true
  | i, es, prev, f :: r => if 16 ≤ (i : Int) then false else if ((fbR f).length : Int) = 0 then false else if 0 < Go.Lib.compareBytes prev (fbR f) then false else if (es.any fun t => decide (t = f.oid)) = true then false else refP (i + 1) (es ++ [f.oid]) (fbR f) r
theorem refP_eq : ∀ (l : List Fe) (i : Nat) (es : List Txt) (prev : Txt), (∀ f ∈ l, FeS f) → refP i es prev l = (decide (l = [] ∨ i + l.length ≤ 16) && ordB (prev :: l.map fbR) && seenP es l)
  | [], i, es, prev, _ => by simp [refP, seenP, ordB, OrdK]
  | f :: r, i, es, prev, h => by
    have ih := refP_eq r (i + 1) (es ++ [f.oid]) (fbR f) fun g hg => h g (List.mem_cons_of_mem _ hg)
    have hl := fb_len (h f (List.mem_cons_self ..))
    rw [List.map_cons, ord_cons]
    simp only [refP, seenP]
    by_cases h1 : 16 ≤ (i : Int)
    · rw [if_pos h1, decide_eq_false (by simp; omega)]; simp
    rw [if_neg h1]
    by_cases h2 : fieldE f = 0
    · rw [if_neg (show ¬ ((fbR f).length : Int) = 0 by have := mt hl.1 (by simp [h2]); omega), if_neg (show ¬ fieldE f ≠ 0 by simp [h2])]
      by_cases h3 : 0 < Go.Lib.compareBytes prev (fbR f)
      · rw [if_pos h3, decide_eq_true h3]; simp
      · rw [if_neg h3, decide_eq_false h3]
        by_cases h4 : (es.any fun t => decide (t = f.oid)) = true
        · rw [if_pos h4, if_pos h4]; simp
        · rw [if_neg h4, if_neg h4, ih]
          have : (r = [] ∨ i + 1 + r.length ≤ 16) ↔ (f :: r = [] ∨ i + (f :: r).length ≤ 16) := by
            constructor
            · rintro (hr | hr)
              · subst hr; right; simp; omega
              · right; simp; omega
            · rintro (hr | hr)
              · cases hr
              · right; simp at hr; omega
          rw [show decide (r = [] ∨ i + 1 + r.length ≤ 16) = decide (f :: r = [] ∨ i + (f :: r).length ≤ 16) from decide_eq_decide.2 this]; simp
    · rw [if_pos (by have := hl.2 h2; omega), if_pos h2]; simp
theorem cmp_nil (y : Txt) : ¬ 0 < Go.Lib.compareBytes [] y := by cases y <;> simp [Go.Lib.compareBytes]
theorem ord_nil (l : List Txt) : ordB ([] :: l) = ordB l := by
  cases l with
  | nil => rfl
  | cons y r => rw [ord_cons, decide_eq_false (cmp_nil y)]; simp
theorem rf_same {l : List Fe} (h : ∀ f ∈ l, FeS f) : refP 0 [] [] l = rfP l := by
  rw [refP_eq l 0 [] [] h, ord_nil]
  have e : l.map fbP = l.map fbR := List.map_congr_left fun f hf => fb_same (h f hf)
  unfold rfP
  rw [e]
  by_cases h1 : 16 < (l.length : Int)
  · rw [if_pos h1, decide_eq_false (by rintro (hh | hh); (subst hh; simp at h1); omega)]; simp
  · rw [if_neg h1, decide_eq_true (by right; omega)]
    cases ordB (l.map fbR) <;> simp
end Go.Proofs.YtohlpgoeheggdaaGreatDoor
namespace Go.Proofs.YtohlpgoeheggdaaGreatDoor
open Go Go.RowKit
set_option maxRecDepth 100000
set_option maxHeartbeats 4000000
theorem crightfields_d (l : List Fe) (hl : l.length ≤ 6000) (hB : ∀ f ∈ l, FeS f) : FnD Tryz.prog 25 [.sl 2 Fe.enc l] (.b (rfP l)) := by
  have hs := fes_at hB
  have ho := corderedf_d l (by omega) hB
  refine FnE.intro Tryz.func25 rfl Tryz.ntmps25 rfl (fun e => ?_)
  refine W ?_
  refine Bg rfl rfl (fun h => ?_) (fun h => ?_)
  · refine W ?_
    refine Rt rfl rfl ?_
    unfold rfP; rw [if_pos h]; rfl
  refine W ?_
  refine Ci rfl (fun h2 => ?_) (fun h2 => ?_)
  · refine W ?_
    refine Rt rfl rfl ?_
    unfold rfP; rw [if_neg h, if_pos h2]; rfl
  refine W ?_
  refine Mm rfl rfl ?_
  refine W ?_
  have fin : seenP [] l = rfP l := by
    unfold rfP; rw [if_neg h, if_neg (by rw [h2]; simp)]
  refine Lp (γ := Nat) (fun g => g ≤ l.length ∧ seenP [] l = seenP ((l.take g).map (·.oid)) (l.drop g)) (fun g => l.length + 1 - g) (fun g => [(3, .mp 0), (17, .d (.sl 2 Fe.enc l)), (18, .d (.i (l.length : Int))), (19, .d (.i (g : Int)))]) (fun g => [(0, .set ((l.take g).map (·.oid)))]) 0 ⟨by omega, rfl⟩ ⟨rfl, rfl, rfl, rfl, trivial⟩ ⟨rfl, trivial⟩ ?_
  rintro g ⟨hg, hf⟩
  have hfe := hs g
  have c1 := cfieldnode_d (l.getD g default) (Nat.le_trans hfe.1 (by omega)) (Nat.le_trans hfe.2.1 (by omega)) (fun v hv => Nat.le_trans (hfe.2.2 v hv) (by omega))
  refine W ?_
  refine Ci rfl (fun h3 => ?_) (fun h3 => ?_)
  · have hlt : g < l.length := by omega
    have hget : l.getD g default = l[g] := getD_at hlt
    have hdr : l.drop g = l.getD g default :: l.drop (g + 1) := by rw [List.drop_eq_getElem_cons hlt, hget]
    have htk : (l.take (g + 1)).map (·.oid) = (l.take g).map (·.oid) ++ [(l.getD g default).oid] := by rw [List.take_succ_eq_append_getElem hlt, List.map_append, hget]; rfl
    rw [hdr] at hf
    simp only [seenP] at hf
    refine W ?_
    refine Bg rfl rfl (fun h4 => ?_) (fun h4 => ?_)
    · rw [if_pos h4] at hf
      refine W ?_
      refine Rt rfl rfl ?_
      rw [← fin, hf]; rfl
    rw [if_neg (show ¬ fieldE (l.getD g default) ≠ 0 from fun hh => hh h4)] at hf
    refine W ?_
    refine JLD.s1 (St1.look rfl rfl rfl rfl rfl rfl) ?_
    refine W ?_
    refine Ci rfl (fun h5 => ?_) (fun h5 => ?_)
    · rw [if_pos h5] at hf
      refine W ?_
      refine Rt rfl rfl ?_
      rw [← fin, hf]; rfl
    rw [if_neg (by rw [h5]; simp)] at hf
    refine W ?_
    refine Mu rfl rfl rfl rfl h5 rfl rfl ?_
    refine W ?_
    refine ⟨g + 1, by omega, ⟨by omega, ?_⟩, ⟨rfl, rfl, rfl, rfl, trivial⟩, ?_⟩
    · rw [htk]; exact hf
    · show WkO [(0, .set ((l.take (g + 1)).map (·.oid)))] _
      rw [htk]
      exact ⟨rfl, trivial⟩
  · refine W ?_
    refine Rt rfl rfl ?_
    rw [← fin, hf, List.drop_of_length_le (by omega)]; rfl
instance : Cn Tryz.prog 25 (type_of% @crightfields_d) := ⟨@crightfields_d⟩
end Go.Proofs.YtohlpgoeheggdaaGreatDoor
namespace Go.Proofs.YtohlpgoeheggdaaGreatDoor
open Go Go.RowKit
set_option maxRecDepth 100000
set_option maxHeartbeats 4000000
theorem Nl {P : Program} [Tb P] {F : Fd} {n : PostD} {x : Nat → PostD} {a : List (Nat × A)} {o : List (Nat × OE)} {c : Code} (t : Nat) (d : D) (hx : lkA a t = some (.d (.v (.slice none 0 0)))) (hd : ∀ h, Den d h (.slice none 0 0)) (kk : JD P F c n x ((t, .d d) :: a) o) : JD P F c n x a o := .mk fun ρ h S L cz => by
  have h1 : look S t = some (.slice none 0 0) := evA_v (y := .tmp t) cz hx
  refine kk.k ρ h _ _ ⟨cz.t, fun u y hy => ?_, cz.o⟩
  simp only [lkA] at hy
  cases hq : Nat.beq t u with
  | true =>
    obtain rfl := Nat.eq_of_beq_eq_true hq
    simp only [hq, cond_true, Option.some.injEq] at hy
    subst hy
    exact ⟨_, h1, hd h⟩
  | false => simp only [hq, cond_false] at hy; exact cz.s u y hy
theorem den_bsnil (h : Part) : Den (.bs []) h (.slice none 0 0) := (den_bs (h := h)).2 ⟨none, 0, rfl, SlR.nil_⟩
theorem rrightfields_d (l : List Fe) (hl : l.length ≤ 6000) (hB : ∀ f ∈ l, FeS f) : FnD Tryz.prog 26 [.sl 2 Fe.enc l] (.b (refP 0 [] [] l)) := by
  have hs := fes_at hB
  refine FnE.intro Tryz.func26 rfl Tryz.ntmps26 rfl (fun e => ?_)
  refine W ?_
  refine Nl 3 (.bs []) rfl den_bsnil ?_
  refine Lp (γ := Nat × Txt) (fun k => k.1 ≤ l.length ∧ refP 0 [] [] l = refP k.1 ((l.take k.1).map (·.oid)) k.2 (l.drop k.1)) (fun k => l.length + 1 - k.1) (fun k => [(0, .d (.sl 2 Fe.enc l)), (3, .d (.bs k.2)), (4, .d (.i (k.1 : Int)))]) (fun _ => []) (0, []) ⟨by omega, rfl⟩ ⟨rfl, rfl, rfl, trivial⟩ trivial ?_
  rintro ⟨g, prev⟩ ⟨hg, hf⟩
  dsimp only at hg hf
  show JD _ _ _ _ _ [(0, .d (.sl 2 Fe.enc l)), (3, .d (.bs prev)), (4, .d (.i (g : Int)))] []
  have hfe := hs g
  have c1 := rfieldbytes_d (l.getD g default) hfe
  refine W ?_
  refine Ci rfl (fun h3 => ?_) (fun h3 => ?_)
  · have hlt : g < l.length := by omega
    have hget : l.getD g default = l[g] := getD_at hlt
    have hdr : l.drop g = l.getD g default :: l.drop (g + 1) := by rw [List.drop_eq_getElem_cons hlt, hget]
    have htk : (l.take (g + 1)).map (·.oid) = (l.take g).map (·.oid) ++ [(l.getD g default).oid] := by rw [List.take_succ_eq_append_getElem hlt, List.map_append, hget]; rfl
    rw [hdr] at hf
    simp only [refP] at hf
    refine W ?_
    refine Bg rfl rfl (fun h4 => ?_) (fun h4 => ?_)
    · rw [if_pos h4] at hf
      refine W ?_
      refine Rt rfl rfl ?_
      rw [hf]; rfl
    rw [if_neg h4] at hf
    refine W ?_
    refine Bg rfl rfl (fun h5 => ?_) (fun h5 => ?_)
    · rw [if_pos h5] at hf
      refine W ?_
      refine Rt rfl rfl ?_
      rw [hf]; rfl
    rw [if_neg h5] at hf
    refine W ?_
    refine Ci rfl (fun h6 => ?_) (fun h6 => ?_)
    · rw [if_pos h6] at hf
      refine W ?_
      refine Rt rfl rfl ?_
      rw [hf]; rfl
    rw [if_neg h6] at hf
    refine W ?_
    refine Lp (γ := Nat) (fun j => j ≤ g ∧ (((l.take j).map (·.oid)).any fun t => decide (t = (l.getD g default).oid)) = false) (fun j => g + 1 - j) (fun j => [(0, .d (.sl 2 Fe.enc l)), (4, .d (.i (g : Int))), (5, .d (.bs (fbR (l.getD g default)))), (6, .d (.i (j : Int)))]) (fun _ => []) 0 ⟨by omega, rfl⟩ ⟨rfl, rfl, rfl, rfl, trivial⟩ trivial ?_
    rintro j ⟨hj, ha⟩
    refine W ?_
    refine Ci rfl (fun h7 => ?_) (fun h7 => ?_)
    · have hltj : j < l.length := by omega
      have htj : (l.take (j + 1)).map (·.oid) = (l.take j).map (·.oid) ++ [(l.getD j default).oid] := by rw [List.take_succ_eq_append_getElem hltj, List.map_append, getD_at hltj]; rfl
      refine W ?_
      refine Ci rfl (fun h8 => ?_) (fun h8 => ?_)
      · refine W ?_
        refine Rt rfl rfl ?_
        rw [hf, if_pos]
        · rfl
        · rw [List.any_eq_true]
          refine ⟨(l.getD j default).oid, List.mem_map.2 ⟨l.getD j default, ?_, rfl⟩, decide_eq_true h8⟩
          rw [getD_at hltj, List.mem_take_iff_getElem]
          exact ⟨j, by omega, rfl⟩
      · refine W ?_
        refine ⟨j + 1, by omega, ⟨by omega, ?_⟩, ⟨rfl, rfl, rfl, rfl, trivial⟩, trivial⟩
        rw [htj, List.any_append, ha]
        simp only [List.any_cons, List.any_nil, decide_eq_false h8, Bool.or_false]
    · obtain rfl : j = g := by omega
      rw [ha, if_neg (by simp), ← htk] at hf
      refine W ?_
      exact ⟨(j + 1, fbR (l.getD j default)), by simp only; omega, ⟨by simp only; omega, hf⟩, ⟨rfl, rfl, rfl, trivial⟩, trivial⟩
  · refine W ?_
    refine Rt rfl rfl ?_
    rw [hf, List.drop_of_length_le (by omega)]; rfl
instance : Cn Tryz.prog 26 (type_of% @rrightfields_d) := ⟨@rrightfields_d⟩
end Go.Proofs.YtohlpgoeheggdaaGreatDoor
namespace Go.Proofs.YtohlpgoeheggdaaGreatDoor
open Go Go.RowKit
set_option maxRecDepth 100000
set_option maxHeartbeats 4000000
def vW : List Txt → Nat
  | [] => 0
  | v :: r => 1 + v.length + vW r
def fW : List Fe → Nat
  | [] => 0
  | f :: r => 1 + f.oid.length + vW f.vals + fW r
theorem fvM_eq (m : Int) : ∀ (l : List Txt) (n : Int), fvM m l n ≤ m → fvM m l n = n + vW l
  | [], n, _ => by simp [fvM, vW]
  | v :: r, n, h => by
    simp only [fvM] at h ⊢
    split at h
    · rename_i hn
      rw [if_pos hn, fvM_eq m r _ h]; simp only [vW]; omega
    · omega
theorem fsM_eq (m : Int) : ∀ (l : List Fe) (n : Int), fsM m l n ≤ m → fsM m l n = n + fW l
  | [], n, _ => by simp [fsM, fW]
  | f :: r, n, h => by
    simp only [fsM] at h ⊢
    split at h
    · rename_i hn
      rw [if_pos hn]
      have h1 : fvM m f.vals (n + 1 + f.oid.length) ≤ m := by
        by_cases hh : m < fvM m f.vals (n + 1 + f.oid.length)
        · rw [fsM_stop m _ hh] at h; exact h
        · omega
      rw [fsM_eq m r _ h, fvM_eq m _ _ h1]; simp only [fW]; omega
    · omega
theorem vW_le : ∀ (l : List Txt), l.length ≤ vW l ∧ ∀ v ∈ l, v.length ≤ vW l
  | [] => ⟨Nat.le_refl _, fun v hv => by cases hv⟩
  | v :: r => by
    have h := vW_le r
    refine ⟨by simp only [vW, List.length_cons]; omega, fun w hw => ?_⟩
    simp only [vW]
    cases hw with
    | head => omega
    | tail _ hw => have := h.2 w hw; omega
theorem fW_le : ∀ (l : List Fe), l.length ≤ fW l ∧ ∀ f ∈ l, f.oid.length + vW f.vals ≤ fW l
  | [] => ⟨Nat.le_refl _, fun v hv => by cases hv⟩
  | f :: r => by
    have h := fW_le r
    refine ⟨by simp only [fW, List.length_cons]; omega, fun w hw => ?_⟩
    simp only [fW]
    cases hw with
    | head => omega
    | tail _ hw => have := h.2 w hw; omega
theorem long_all {l : List Fe} (h : ¬ 6000 < fsM 6000 l 0) : fW l ≤ 6000 ∧ l.length ≤ 6000 ∧ ∀ f ∈ l, FeS f := by
  have h1 := fsM_eq 6000 l 0 (by omega)
  have h2 := fW_le l
  refine ⟨by omega, by omega, fun f hf => ?_⟩
  have h3 := h2.2 f hf
  have h4 := vW_le f.vals
  exact ⟨by omega, by omega, fun v hv => by have := h4.2 v hv; omega⟩
theorem szl_vals : ∀ (l : List Txt), Nd.szL (l.map fun v => (rdTop v).1) ≤ vW l
  | [] => by simp [Nd.szL]
  | v :: r => by
    have h1 := rdTop_sz v
    have h2 := szl_vals r
    simp only [List.map_cons, Nd.szL, vW]; omega
theorem szl_fields : ∀ (l : List Fe), Nd.szL (l.map fieldN) ≤ 26 * fW l
  | [] => by simp [Nd.szL]
  | f :: r => by
    have h1 := szl_vals f.vals
    have h2 := szl_fields r
    have h3 := oiN_sz f.oid
    have h4 : (fieldN f).sz ≤ 26 * (1 + f.oid.length + vW f.vals) := by
      unfold fieldN
      split
      · simp only [setN, Nd.sz, Nd.szL, List.length_nil]; omega
      · simp [ndZ0, Nd.sz, Nd.szL]; omega
    simp only [List.map_cons, Nd.szL, fW]; omega
theorem cfieldnodes_d (l : List Fe) (hl : l.length ≤ 6000) (hB : ∀ f ∈ l, FeS f) : FnD Tryz.prog 62 [.sl 2 Fe.enc l] (.nds (l.map fieldN)) := by
  have hs := fes_at hB
  refine FnE.intro Tryz.func62 rfl Tryz.ntmps62 rfl (fun e => ?_)
  refine W ?_
  refine Rn kN 3 28 rfl rfl ?_
  refine Lp (γ := Nat) (fun g => g ≤ l.length) (fun g => l.length + 1 - g) (fun g => [(3, .row 0), (8, .d (.sl 2 Fe.enc l)), (9, .d (.i (l.length : Int))), (10, .d (.i (g : Int)))]) (fun g => [(0, .row 28 (.nds ((l.take g).map fieldN)))]) 0 (by omega) ⟨rfl, rfl, rfl, rfl, trivial⟩ ⟨rfl, trivial⟩ ?_
  intro g hg
  have hfe := hs g
  have c1 := cfieldnode_d (l.getD g default) (Nat.le_trans hfe.1 (by omega)) (Nat.le_trans hfe.2.1 (by omega)) (fun v hv => Nat.le_trans (hfe.2.2 v hv) (by omega))
  have hml : ((l.take g).map fieldN).length ≤ 10000000 := by rw [List.length_map]; have := List.length_take_le' g l; omega
  refine W ?_
  refine Ci rfl (fun h3 => ?_) (fun h3 => ?_)
  · have hlt : g < l.length := by omega
    have htk : (l.take (g + 1)).map fieldN = (l.take g).map fieldN ++ [fieldN (l.getD g default)] := by rw [List.take_succ_eq_append_getElem hlt, List.map_append, getD_at hlt]; rfl
    refine W ?_
    refine ⟨g + 1, by omega, by omega, ⟨rfl, rfl, rfl, rfl, trivial⟩, ?_⟩
    show WkO [(0, .row 28 (.nds ((l.take (g + 1)).map fieldN)))] _
    rw [htk]
    exact ⟨rfl, trivial⟩
  · have hge : g = l.length := by omega
    subst hge
    rw [List.take_length]
    refine W ?_
    refine Pb 0 rfl ?_
    refine W ?_
    exact Rt rfl rfl rfl
instance : Cn Tryz.prog 62 (type_of% @cfieldnodes_d) := ⟨@cfieldnodes_d⟩
end Go.Proofs.YtohlpgoeheggdaaGreatDoor
namespace Go.Proofs.YtohlpgoeheggdaaGreatDoor
open Go Go.RowKit
set_option maxRecDepth 100000
set_option maxHeartbeats 4000000
theorem rnodes_d (l : List Fe) (hl : l.length ≤ 6000) (hB : ∀ f ∈ l, FeS f) : FnD Tryz.prog 71 [.sl 2 Fe.enc l] (.nds (l.map fieldN)) := by
  have hs := fes_at hB
  refine FnE.intro Tryz.func71 rfl Tryz.ntmps71 rfl (fun e => ?_)
  refine W ?_
  refine Rn kN 3 28 rfl rfl ?_
  refine Lp (γ := Nat) (fun g => g ≤ l.length) (fun g => l.length + 1 - g) (fun g => [(0, .d (.sl 2 Fe.enc l)), (3, .row 0), (4, .d (.i (g : Int)))]) (fun g => [(0, .row 28 (.nds ((l.take g).map fieldN)))]) 0 (by omega) ⟨rfl, rfl, rfl, trivial⟩ ⟨rfl, trivial⟩ ?_
  intro g hg
  have hfe := hs g
  have c1 := rfieldnode_d (l.getD g default) (Nat.le_trans hfe.1 (by omega)) (Nat.le_trans hfe.2.1 (by omega)) (fun v hv => Nat.le_trans (hfe.2.2 v hv) (by omega))
  have hml : ((l.take g).map fieldN).length ≤ 10000000 := by rw [List.length_map]; have := List.length_take_le' g l; omega
  refine W ?_
  refine Ci rfl (fun h3 => ?_) (fun h3 => ?_)
  · have hlt : g < l.length := by omega
    have htk : (l.take (g + 1)).map fieldN = (l.take g).map fieldN ++ [fieldN (l.getD g default)] := by rw [List.take_succ_eq_append_getElem hlt, List.map_append, getD_at hlt]; rfl
    refine W ?_
    refine ⟨g + 1, by omega, by omega, ⟨rfl, rfl, rfl, trivial⟩, ?_⟩
    show WkO [(0, .row 28 (.nds ((l.take (g + 1)).map fieldN)))] _
    rw [htk]
    exact ⟨rfl, trivial⟩
  · have hge : g = l.length := by omega
    subst hge
    rw [List.take_length]
    refine W ?_
    refine Pb 0 rfl ?_
    refine W ?_
    exact Rt rfl rfl rfl
instance : Cn Tryz.prog 71 (type_of% @rnodes_d) := ⟨@rnodes_d⟩
def fsN (l : List Fe) : Nd := .mk 0 17 true [] (l.map fieldN)
def fsB (l : List Fe) : Txt × Int := if rfP l = false then ([], 60) else (fsN l).wr
def fsR (l : List Fe) : Txt × Int := if rfP l = false then ([], 60) else ((fsN l).put.getD [], 0)
theorem seenP_ok : ∀ (l : List Fe) (es : List Txt), seenP es l = true → ∀ f ∈ l, fieldE f = 0
  | [], _, _, f, hf => by cases hf
  | f :: r, es, h, g, hg => by
    simp only [seenP] at h
    split at h
    · cases h
    · rename_i h1
      split at h
      · cases h
      · cases hg with
        | head => exact Decidable.not_not.1 h1
        | tail _ hg => exact seenP_ok r _ h g hg
theorem fsN_sz {l : List Fe} (h : fW l ≤ 6000) : (fsN l).sz ≤ 200000 := by
  have := szl_fields l
  simp only [fsN, Nd.sz, List.length_nil]; omega
theorem fs_same {l : List Fe} (h : fW l ≤ 6000) (hB : ∀ f ∈ l, FeS f) : fsB l = fsR l := by
  unfold fsB fsR
  split
  · rfl
  rename_i h1
  have h2 : ordB (l.map fbP) = true ∧ seenP [] l = true := by
    simp only [rfP] at h1
    split at h1
    · exact absurd rfl h1
    · split at h1
      · exact absurd rfl h1
      · rename_i h3
        exact ⟨by cases ho : ordB (l.map fbP) <;> simp_all, by cases ho : seenP [] l <;> simp_all⟩
  have h3 := seenP_ok l [] h2.2
  have hp : ∀ f ∈ l, (fieldN f).put = some (fbP f) := fun f hf => by
    have e := fieldN_wr (hB f hf) (fieldE_ok.1 (h3 f hf))
    obtain ⟨b, hb⟩ := Option.isSome_iff_exists.1 (fieldN_put (fieldE_ok.1 (h3 f hf)))
    unfold fbP
    rw [if_neg (fun hh => hh (h3 f hf)), e.1, hb]; rfl
  have e1 : (l.map fieldN).map (fun k => k.put.getD []) = l.map fbP := by
    rw [List.map_map]
    exact List.map_congr_left fun f hf => by simp only [Function.comp, hp f hf]; rfl
  have e2 : (l.map fieldN).all (·.put.isSome) = true := by
    rw [List.all_map, List.all_eq_true]
    intro f hf
    simp only [Function.comp, hp f hf]; rfl
  have h4 : (fsN l).put.isSome = true := by
    unfold fsN
    rw [put_set, e1, e2, h2.1]; rfl
  obtain ⟨b, hb⟩ := Option.isSome_iff_exists.1 h4
  have h5 := fsN_sz h
  have h6 := Nd.put_len _ (fsN l) b (Nat.le_refl _) hb
  have h7 : (fsN l).rk ≤ 31 := by
    have : Nd.rkL (l.map fieldN) ≤ 30 := rkL_le fun k hk => by
      obtain ⟨f, hf, rfl⟩ := List.mem_map.1 hk
      exact fieldN_rk (fieldE_ok.1 (h3 f hf))
    simp only [fsN, Nd.rk]; omega
  unfold Nd.wr
  rw [hb]
  simp only
  rw [if_neg (by omega), if_neg (by omega)]; rfl
theorem cbytes_d (l : List Fe) (h : fW l ≤ 6000) (hl : l.length ≤ 6000) (hB : ∀ f ∈ l, FeS f) : FnD Tryz.prog 21 [.sl 2 Fe.enc l] (.tup [.bs (fsB l).1, .i (fsB l).2]) := by
  have h1 := crightfields_d l hl hB
  have h2 := cfieldnodes_d l hl hB
  have h3 := szl_fields l
  have h4 := fsN_sz h
  have h5 := write_d (n := fsN l) (by omega)
  have h6 := cons_d (c := 0) (t := 17) (l := l.map fieldN) (by omega)
  refine FnE.intro Tryz.func21 rfl Tryz.ntmps21 rfl (fun e => ?_)
  refine W ?_
  refine Ci rfl (fun g => ?_) (fun g => ?_)
  · refine W ?_
    refine Rt rfl rfl ?_
    unfold fsB; rw [if_pos g]; rfl
  · refine W ?_
    refine Rt rfl rfl ?_
    unfold fsB; rw [if_neg (by rw [g]; simp)]; rfl
instance : Cn Tryz.prog 21 (type_of% @cbytes_d) := ⟨@cbytes_d⟩
theorem rbytesf_d (l : List Fe) (h : fW l ≤ 6000) (hl : l.length ≤ 6000) (hB : ∀ f ∈ l, FeS f) : FnD Tryz.prog 22 [.sl 2 Fe.enc l] (.tup [.bs (fsR l).1, .i (fsR l).2]) := by
  have h1 := rrightfields_d l hl hB
  rw [rf_same hB] at h1
  have h2 := rnodes_d l hl hB
  have h4 := fsN_sz h
  have h5 := rbytesof_d (fsN l) (by omega)
  refine FnE.intro Tryz.func22 rfl Tryz.ntmps22 rfl (fun e => ?_)
  refine W ?_
  refine Ci rfl (fun g => ?_) (fun g => ?_)
  · refine W ?_
    refine Rt rfl rfl ?_
    unfold fsR; rw [if_pos g]; rfl
  · refine W ?_
    refine Rt rfl rfl ?_
    unfold fsR; rw [if_neg (by rw [g]; simp)]; rfl
instance : Cn Tryz.prog 22 (type_of% @rbytesf_d) := ⟨@rbytesf_d⟩
theorem samebytes_d (x y : Txt) : FnD Tryz.prog 27 [.bs x, .bs y] (.b (decide (x = y))) := by
  exact FnE.intro Tryz.func27 rfl Tryz.ntmps27 rfl (fun e => Z)
instance : Cn Tryz.prog 27 (type_of% @samebytes_d) := ⟨@samebytes_d⟩
end Go.Proofs.YtohlpgoeheggdaaGreatDoor
namespace Go.Proofs.YtohlpgoeheggdaaGreatDoor
open Go Go.RowKit
set_option maxRecDepth 100000
set_option maxHeartbeats 4000000
theorem cmsasked_d (l : List Fe) (o : Txt) (hl : l.length ≤ 140737488355328) (hB : ∀ f ∈ l, FeB f) : FnD Tryz.prog 5 [.sl 2 Fe.enc l, .s o] (.b true) := by
  have hlong := long_d l hl hB
  refine FnE.intro Tryz.func5 rfl Tryz.ntmps5 rfl (fun e => ?_)
  refine W ?_
  refine Bg rfl rfl (fun h1 => Z) (fun h1 => ?_)
  refine W ?_
  refine Ci rfl (fun h2 => Z) (fun h2 => ?_)
  obtain ⟨b0, b1, b2⟩ := long_all h1
  have c1 := cbytes_d l b0 b1 b2
  have c2 := rbytesf_d l b0 b1 b2
  rw [← fs_same b0 b2] at c2
  have c3 := cget_d l o hl (fun f hf => ⟨Nat.le_trans (b2 f hf).2.1 (by omega), fun v hv => Nat.le_trans ((b2 f hf).2.2 v hv) (by omega)⟩)
  have c4 := rget_d l o hl
  have c5 := crightfields_d l b1 b2
  have c6 := rrightfields_d l b1 b2
  rw [rf_same b2] at c6
  have c7 := samebytes_d (fsB l).1 (fsB l).1
  have hv : (getF l o).1.length ≤ 1000000000000 := by
    unfold getF
    split
    · rename_i f hf
      exact Nat.le_trans (b2 f (List.mem_of_find?_eq_some hf)).2.1 (by omega)
    · exact Nat.zero_le _
  have c8 := samevalues_d (getF l o).1 (getF l o).1 hv
  rw [decide_eq_true rfl] at c7 c8
  generalize (fsB l).1 = N at *
  generalize (fsB l).2 = E at *
  generalize (getF l o).1 = G at *
  generalize (getF l o).2 = B at *
  generalize rfP l = R at *
  refine W ?_
  cases R
  all_goals
    refine W ?_
    refine Bg rfl rfl (fun _ => ?_) (fun h => absurd rfl h)
    refine W ?_
    cases B
    all_goals
      refine W ?_
      exact Rt rfl rfl rfl
end Go.Proofs.YtohlpgoeheggdaaGreatDoor
