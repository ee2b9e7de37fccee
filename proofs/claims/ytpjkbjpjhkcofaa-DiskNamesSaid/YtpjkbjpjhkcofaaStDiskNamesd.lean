/- DiskNames: a run in pieces, the arguments letters: states and pieces, written by a program. No condition. -/
import Derived.Test.YtpjkbjpjhkcofaaEvSt
namespace Go.Proofs.Ytpjkbjpjhkcofaa.StDiskNames
open Go Go.RowKit Go.Proofs Go.Proofs.Ytpjkbjpjhkcofaa.Ev
set_option maxRecDepth 100000
def pairs : List (Nat × Nat) := (List.range 10).flatMap fun k => (List.range (k + 1)).map fun r => (k, r)
def binsN : List TBin := ((List.range 10).map fun k => ⟨.rem, 5, .chan (some (100 + k)), .int .u8 10, .int .u8 k⟩) ++ (pairs.map fun p => ⟨.rem, 3, .chan (some (400 + 10 * p.1 + p.2)), .int .i64 (p.1 + 1 : Nat), .int .i64 p.2⟩)
def convsN : List TConv := pairs.map fun p => ⟨5, 3, .chan (some (200 + 10 * p.1 + p.2)), .chan (some (400 + 10 * p.1 + p.2))⟩
abbrev xcN : XC := ⟨99999, 57, 71, 55, binsN, convsN⟩
noncomputable def e0 (n c : Nat) : List Value := .chan (some n) :: .chan (some c) :: List.replicate 78 undef
noncomputable def h0 : AH := AH.empty
noncomputable def e1 (n c : Nat) : List Value := [(.chan (some n)), (.chan (some c)), vx, vx, (vt false), vx, vx, vx, vx, vx, vx, vx, vx, vx, vx, vx, vx, vx, vx, vx, vx, vx, vx, vx, vx, vx, vx, vx, vx, vx, vx, vx, vx, vx, vx, vx, vx, vx, vx, vx, vx, vx, vx, vx, vx, vx, vx, vx, vx, vx, vx, vx, vx, vx, vx, vx, vx, vx, vx, vx, vx, vx, vx, vx, vx, vx, vx, vx, vx, vx, vx, vx, vx, vx, vx, vx, vx, vx, vx, vx]
noncomputable def h1 : AH := ⟨tl, 0⟩
noncomputable def d0 : Tr Blk := (tn (bc [(vu 97), (vu 98), (vu 99)] 1 (some 30)) (tn (bc [(vi 100), (.map (some 64)), (.map (some 71)), (.slice none 0 0), (vi 8), (vi 0)] 1000006 none) tl tl) tl)
noncomputable def d1 : Tr Blk := (tn (bc [(.func (.func 66) #[] #[(vp 18 0), (vp 19 0)])] 1 none) (tn (bc [] 1 (some 40)) (tn (some ⟨.map [⟨(.string ⟨#[120]⟩), (vp 70 0), 0⟩] 1, true, none⟩) tl tl) tl) (tn (bc [] 1 (some 56)) tl tl))
noncomputable def d2 : Tr Blk := (tn (bc [(.string ⟨#[120]⟩), (.string ⟨#[]⟩), (vp 4 0)] 3 none) (tn (bc [] 1 (some 16)) d0 (tn (bc [(.func (.func 66) #[] #[(vp 41 0), (vp 42 0)])] 1 none) tl tl)) d1)
noncomputable def d3 : Tr Blk := (tn (bc [(vs 21 0 3 3)] 1000001 none) (tn (bc [(.string ⟨#[120]⟩)] 1 none) (tn (bc [(vu 97), (vu 98), (vu 99)] 1 (some 66)) tl tl) tl) (tn (bc [(vu 97), (vu 98), (vu 99)] 1 (some 50)) tl tl))
noncomputable def d4 : Tr Blk := (tn (bc [(.string ⟨#[120]⟩)] 1 none) d2 (tn (bc [(.string ⟨#[120]⟩)] 1 none) d3 (tn (bc [] 1 (some 28)) (tn (bc [] 1 (some 44)) tl tl) (tn (bc [(.string ⟨#[120]⟩)] 1 none) tl tl))))
noncomputable def d5 : Tr Blk := (tn (bc [(vu 122), (vu 98), (vu 99)] 1 none) (tn (bc [(vu 122)] 1 none) (tn (some ⟨.miter 52 1 [0] 1, true, none⟩) tl tl) tl) (tn (bc [(.string ⟨#[120]⟩)] 1 none) tl tl))
noncomputable def d6 : Tr Blk := (tn (bc [(vu 97), (vu 98), (vu 99)] 1 none) d5 (tn (bc [(vi 1), (vi 2)] 1 none) (tn (bc [(vi 0)] 1000001 none) tl tl) (tn (bc [(.map (some 52))] 1000001 none) tl tl)))
noncomputable def d7 : Tr Blk := (tn (bc [(vu 97), (vu 98), (vu 99)] 1 (some 20)) (tn (bc [(vi 0)] 1000001 none) (tn (bc [(vu 97), (vu 98), (vu 99)] 1 (some 68)) tl tl) tl) (tn (bc [(vi 0), (vi 3)] 1 none) tl tl))
noncomputable def d8 : Tr Blk := (tn (bc [(vi 0)] 1000001 none) d7 (tn (bc [(.string ⟨#[120]⟩)] 1 none) (tn (bc [(.func (.func 66) #[] #[(vp 41 0), (vp 42 0)])] 1 none) tl tl) (tn (bc [(.map (some 60))] 1000001 none) tl tl)))
noncomputable def d9 : Tr Blk := (tn (bc [(vu 97), (vu 98), (vu 99)] 1 (some 15)) (tn (some ⟨.map [⟨(.string ⟨#[120]⟩), (vp 4 0), 0⟩] 1, true, none⟩) (tn (some ⟨.map [⟨(.string ⟨#[120]⟩), (vp 70 0), 0⟩] 1, true, none⟩) tl tl) tl) (tn (bc [(.map (some 32))] 1000001 none) tl tl))
noncomputable def d10 : Tr Blk := (tn (bc [(.func (.func 66) #[] #[(vp 18 0), (vp 19 0)])] 1 none) (tn (bc [(vu 122)] 1 (some 39)) (tn (some ⟨.miter 32 1 [0] 1, true, none⟩) tl tl) tl) (tn (bc [(vu 97), (vu 98), (vu 99)] 1 (some 55)) tl tl))
noncomputable def d11 : Tr Blk := (tn (bc [] 1 (some 21)) (tn (some ⟨.miter 0 1 [0] 1, true, none⟩) (tn (bc [] 1 (some 69)) tl tl) tl) (tn (some ⟨.map [⟨(.string ⟨#[120]⟩), (vp 4 0), 0⟩] 1, true, none⟩) tl tl))
noncomputable def d12 : Tr Blk := (tn (some ⟨.miter 0 1 [0] 1, true, none⟩) d11 (tn (bc [(vu 98), (vu 99)] 1 (some 27)) (tn (bc [(vu 122)] 1 (some 43)) tl tl) (tn (some ⟨.map [⟨(vp 4 0), (vp 70 0), 0⟩] 1, true, none⟩) tl tl)))
noncomputable def d13 : Tr Blk := (tn (bc [(vi 0)] 1 none) (tn (bc [(vi 0)] 1000001 none) (tn (bc [(vi 0)] 1 none) (tn (bc [] 1 (some 67)) tl tl) tl) (tn (bc [] 1 (some 51)) tl tl)) (tn (bc [(.string ⟨#[120]⟩)] 1 none) (tn (bc [(vs 44 0 1 1)] 1000001 none) tl tl) (tn (bc [(.string ⟨#[120]⟩)] 1 none) tl tl)))
noncomputable def d14 : Tr Blk := (tn (bc [(.func (.func 66) #[] #[(vp 18 0), (vp 19 0)])] 1 none) (tn (bc [(vs 40 0 1 1)] 1000001 none) (tn (bc [(vs 67 0 3 3), (vs 69 0 3 3), (.slice none 0 0)] 1000003 none) tl tl) tl) (tn (bc [(.string ⟨#[120]⟩)] 1 none) tl tl))
noncomputable def d15 : Tr Blk := (tn (bc [] 1 (some 31)) (tn (bc [(.func (.func 66) #[] #[(vp 41 0), (vp 42 0)])] 1 none) tl tl) (tn (bc [(.func (.func 59) #[] #[(vp 61 0)])] 1000001 none) tl tl))
noncomputable def d16 : Tr Blk := (tn (bc [(vi 100), (.map (some 52)), (.map (some 32)), (.slice none 0 0), (vi 8), (vi 0)] 1000006 none) (tn (bc [(vs 51 0 3 3), (vs 31 0 3 3), (.slice none 0 0)] 1000003 none) (tn (bc [(.string ⟨#[120]⟩), (.string ⟨#[]⟩), (vp 4 0)] 3 none) d9 d10) d12) (tn (bc [(.string ⟨#[120]⟩), (.string ⟨#[]⟩), (vp 4 0)] 1000003 none) d13 (tn (bc [(vs 16 0 3 3)] 1000001 none) d14 d15)))
noncomputable def d17 : Tr Blk := (tn (some ⟨.map [⟨(.string ⟨#[120]⟩), (vp 4 0), 0⟩] 1, true, none⟩) (tn (some ⟨.map [] 0, true, none⟩) d4 (tn (bc [(.string ⟨#[120]⟩), (.string ⟨#[]⟩), (vp 4 0)] 1000003 none) d6 d8)) d16)
noncomputable def e2 (n c : Nat) : List Value := [(.chan (some n)), (.chan (some c)), vx, vx, (vt false), vx, vx, vx, vx, vx, vx, vx, (vt true), (vt false), vx, vx, vx, vx, vx, vx, vx, vx, vx, vx, vx, vx, vx, vx, vx, vx, vx, vx, vx, vx, vx, vx, vx, vx, vx, vx, vx, vx, vx, vx, vx, vx, vx, vx, vx, vx, vx, vx, vx, vx, vx, vx, vx, vx, vx, vx, vx, vx, vx, vx, vx, vx, vx, vx, vx, vx, vx, vx, vx, vx, vx, vx, vx, vx, vx, vx]
noncomputable def h2 : AH := ⟨d17, 73⟩
noncomputable def d18 : Tr Blk := (tn (bc [] 1 (some 28)) (tn (bc [] 1 (some 44)) (tn (bc [(vi 1000), (.map (some 73)), (.map (some 74)), (.slice none 0 0), (vi 0), (vi 0)] 1000006 none) tl tl) tl) (tn (bc [(.string ⟨#[120]⟩)] 1 none) tl tl))
noncomputable def d19 : Tr Blk := (tn (bc [(vu 97), (vu 98), (vu 99)] 1 none) d5 (tn (bc [(vi 1), (vi 2)] 1 none) (tn (bc [(vi 0)] 1000001 none) (tn (some ⟨.map [] 0, true, none⟩) tl tl) tl) (tn (bc [(.map (some 52))] 1000001 none) tl tl)))
noncomputable def d20 : Tr Blk := (tn (some ⟨.map [] 0, true, none⟩) (tn (bc [(.string ⟨#[120]⟩)] 1 none) d2 (tn (bc [(.string ⟨#[120]⟩)] 1 none) d3 d18)) (tn (bc [(.string ⟨#[120]⟩), (.string ⟨#[]⟩), (vp 4 0)] 1000003 none) d19 d8))
noncomputable def d21 : Tr Blk := (tn (bc [(.string ⟨#[120]⟩)] 1 none) (tn (bc [(vs 44 0 1 1)] 1000001 none) (tn (some ⟨.map [] 0, true, none⟩) tl tl) tl) (tn (bc [(.string ⟨#[120]⟩)] 1 none) tl tl))
noncomputable def d22 : Tr Blk := (tn (bc [(.string ⟨#[120]⟩), (.string ⟨#[]⟩), (vp 4 0)] 1000003 none) (tn (bc [(vi 0)] 1 none) (tn (bc [(vi 0)] 1000001 none) (tn (bc [(vi 0)] 1 none) (tn (bc [] 1 (some 67)) tl tl) tl) (tn (bc [] 1 (some 51)) tl tl)) d21) (tn (bc [(vs 16 0 3 3)] 1000001 none) d14 d15))
noncomputable def d23 : Tr Blk := (tn (bc [(vi 100), (.map (some 52)), (.map (some 32)), (.slice none 0 0), (vi 8), (vi 0)] 1000006 none) (tn (bc [(vs 51 0 3 3), (vs 31 0 3 3), (.slice none 0 0)] 1000003 none) (tn (bc [(.string ⟨#[120]⟩), (.string ⟨#[]⟩), (vp 4 0)] 3 none) d9 d10) d12) d22)
noncomputable def e3 (n c : Nat) : List Value := [(.chan (some n)), (.chan (some c)), vx, vx, (vt false), (vp 75 0), vx, vx, vx, vx, vx, vx, (vt true), (vt false), (vp 75 0), vx, vx, vx, vx, vx, vx, vx, vx, vx, vx, vx, vx, vx, vx, vx, vx, vx, vx, vx, vx, vx, vx, vx, vx, vx, vx, vx, vx, vx, vx, vx, vx, vx, vx, vx, vx, vx, vx, vx, vx, vx, vx, vx, vx, vx, vx, vx, vx, vx, vx, vx, vx, vx, vx, vx, vx, vx, vx, vx, vx, vx, vx, vx, vx, vx]
noncomputable def h3 : AH := ⟨(tn (some ⟨.map [⟨(.string ⟨#[120]⟩), (vp 4 0), 0⟩] 1, true, none⟩) d20 d23), 76⟩
end Go.Proofs.Ytpjkbjpjhkcofaa.StDiskNames
