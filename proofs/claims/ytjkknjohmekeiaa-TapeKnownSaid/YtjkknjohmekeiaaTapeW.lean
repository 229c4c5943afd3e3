/- The statement TapeKnown: the walk. No condition. -/
import Derived.Test.YtjkknjohmekeiaaTapeV
namespace Go.Proofs.Ytjkknjohmekeiaa
open Go.RowKit

def frmA (p0 p2 p3 p4 p5 p6 p7 p11 p12 p13 p14 p15 p16 p17 p18 p19 p20 p21 p22 p23 p24 p25 p26 p27 p28 p29 p30 p31 p32 p33 p34 p35 p36 p37 p38 p39 p40 p41 p42 p43 p44 p45 p46 p47 p48 p49 p50 p51 p52 p53 p54 p55 p56 p57 p58 p59 p60 p61 p62 p63 p64 p65 p66 p67 p68 p69 p70 p71 p72 p73 p74 p75 p76 p77 p78 p79 p80 p81 p82 p83 p84 p85 p86 p87 p88 p89 p90 p91 p92 p93 p94 p95 p96 p97 p98 p99 p100 p101 p102 p103 p104 p105 p106 p107 p108 p109 p110 p111 p112 p113 p114 p115 p116 p117 p118 p119 p120 p121 p122 p123 p124 p125 p126 p127 p128 p129 p130 p131 p132 p133 p134 p135 p136 p137 p138 p139 p140 p141 p142 p143 p144 p145 p146 p147 p148 p149 p150 p151 p152 p153 p154 p155 p156 p157 p158 p159 p160 p161 p162 p163 : Value) (u : Nat → Value) : Act := { tmps := List.toArray (p0 :: u 3 :: p2 :: p3 :: p4 :: p5 :: p6 :: p7 :: u 0 :: u 1 :: u 2 :: p11 :: p12 :: p13 :: p14 :: p15 :: p16 :: p17 :: p18 :: p19 :: p20 :: p21 :: p22 :: p23 :: p24 :: p25 :: p26 :: p27 :: p28 :: p29 :: p30 :: p31 :: p32 :: p33 :: p34 :: p35 :: p36 :: p37 :: p38 :: p39 :: p40 :: p41 :: p42 :: p43 :: p44 :: p45 :: p46 :: p47 :: p48 :: p49 :: p50 :: p51 :: p52 :: p53 :: p54 :: p55 :: p56 :: p57 :: p58 :: p59 :: p60 :: p61 :: p62 :: p63 :: p64 :: p65 :: p66 :: p67 :: p68 :: p69 :: p70 :: p71 :: p72 :: p73 :: p74 :: p75 :: p76 :: p77 :: p78 :: p79 :: p80 :: p81 :: p82 :: p83 :: p84 :: p85 :: p86 :: p87 :: p88 :: p89 :: p90 :: p91 :: p92 :: p93 :: p94 :: p95 :: p96 :: p97 :: p98 :: p99 :: p100 :: p101 :: p102 :: p103 :: p104 :: p105 :: p106 :: p107 :: p108 :: p109 :: p110 :: p111 :: p112 :: p113 :: p114 :: p115 :: p116 :: p117 :: p118 :: p119 :: p120 :: p121 :: p122 :: p123 :: p124 :: p125 :: p126 :: p127 :: p128 :: p129 :: p130 :: p131 :: p132 :: p133 :: p134 :: p135 :: p136 :: p137 :: p138 :: p139 :: p140 :: p141 :: p142 :: p143 :: p144 :: p145 :: p146 :: p147 :: p148 :: p149 :: p150 :: p151 :: p152 :: p153 :: p154 :: p155 :: p156 :: p157 :: p158 :: p159 :: p160 :: p161 :: p162 :: p163 :: []), defers := [] }
def frmC (p0 p1 p2 p3 p4 p5 p6 p7 p8 p9 p10 p11 p12 p13 p14 p15 p16 p17 p18 p19 p20 p21 p22 p23 p24 p25 p26 p27 p28 p29 p30 p31 p32 p33 p34 p35 p36 p37 p38 p39 p40 p41 p42 p43 p44 p91 p92 p93 p94 p95 p96 p97 p98 p99 p100 p101 p102 p103 p104 p105 p106 p107 p108 p109 p110 p111 p112 p113 p114 p115 p116 p117 p118 p119 p120 p121 p122 p123 p124 p125 p126 p127 p128 p129 p130 p131 p132 p133 p134 p135 p136 p137 p138 p139 p140 p141 p142 p143 p144 p145 p146 p147 p148 p149 p150 p151 p152 p153 p154 p155 p156 p157 p158 p159 p160 p161 p162 p163 : Value) (u : Nat → Value) : Act := { tmps := List.toArray (p0 :: p1 :: p2 :: p3 :: p4 :: p5 :: p6 :: p7 :: p8 :: p9 :: p10 :: p11 :: p12 :: p13 :: p14 :: p15 :: p16 :: p17 :: p18 :: p19 :: p20 :: p21 :: p22 :: p23 :: p24 :: p25 :: p26 :: p27 :: p28 :: p29 :: p30 :: p31 :: p32 :: p33 :: p34 :: p35 :: p36 :: p37 :: p38 :: p39 :: p40 :: p41 :: p42 :: p43 :: p44 :: u 0 :: u 1 :: u 2 :: u 3 :: u 4 :: u 5 :: u 6 :: u 7 :: u 8 :: u 9 :: u 10 :: u 11 :: u 12 :: u 13 :: u 14 :: u 15 :: u 16 :: u 17 :: u 18 :: u 19 :: u 20 :: u 21 :: u 22 :: u 23 :: u 24 :: u 25 :: u 26 :: u 27 :: u 28 :: u 29 :: u 30 :: u 31 :: u 32 :: u 33 :: u 34 :: u 35 :: u 36 :: u 37 :: u 38 :: u 39 :: u 40 :: u 41 :: u 42 :: u 43 :: u 44 :: u 45 :: p91 :: p92 :: p93 :: p94 :: p95 :: p96 :: p97 :: p98 :: p99 :: p100 :: p101 :: p102 :: p103 :: p104 :: p105 :: p106 :: p107 :: p108 :: p109 :: p110 :: p111 :: p112 :: p113 :: p114 :: p115 :: p116 :: p117 :: p118 :: p119 :: p120 :: p121 :: p122 :: p123 :: p124 :: p125 :: p126 :: p127 :: p128 :: p129 :: p130 :: p131 :: p132 :: p133 :: p134 :: p135 :: p136 :: p137 :: p138 :: p139 :: p140 :: p141 :: p142 :: p143 :: p144 :: p145 :: p146 :: p147 :: p148 :: p149 :: p150 :: p151 :: p152 :: p153 :: p154 :: p155 :: p156 :: p157 :: p158 :: p159 :: p160 :: p161 :: p162 :: p163 :: []), defers := [] }
def frmB (p0 p1 p2 p3 p4 p5 p6 p7 p8 p9 p10 p11 p12 p13 p14 p20 p21 p22 p23 p24 p25 p26 p27 p28 p29 p30 p31 p32 p33 p34 p35 p36 p37 p38 p39 p40 p41 p42 p43 p44 p45 p46 p47 p48 p49 p50 p51 p52 p53 p54 p55 p56 p57 p58 p59 p60 p61 p62 p63 p64 p65 p66 p67 p68 p69 p70 p71 p72 p73 p74 p75 p76 p77 p78 p79 p80 p81 p82 p83 p84 p85 p86 p87 p88 p89 p90 p91 p92 p93 p94 p95 p96 p97 p98 p99 p100 p101 p102 p103 p104 p105 p106 p107 p108 p109 p110 p111 p112 p113 p114 p115 p116 p117 p118 p119 p120 p121 p122 p123 p124 p125 p126 p127 p128 p129 p130 p131 p132 p133 p134 p135 p136 p137 p138 p139 p140 p141 p142 p143 p144 p145 p146 p147 p148 p149 p150 p151 p152 p153 p154 p155 p156 p157 p158 p159 p160 p161 p162 p163 : Value) (u : Nat → Value) : Act := { tmps := List.toArray (p0 :: p1 :: p2 :: p3 :: p4 :: p5 :: p6 :: p7 :: p8 :: p9 :: p10 :: p11 :: p12 :: p13 :: p14 :: u 0 :: u 1 :: u 2 :: u 3 :: u 4 :: p20 :: p21 :: p22 :: p23 :: p24 :: p25 :: p26 :: p27 :: p28 :: p29 :: p30 :: p31 :: p32 :: p33 :: p34 :: p35 :: p36 :: p37 :: p38 :: p39 :: p40 :: p41 :: p42 :: p43 :: p44 :: p45 :: p46 :: p47 :: p48 :: p49 :: p50 :: p51 :: p52 :: p53 :: p54 :: p55 :: p56 :: p57 :: p58 :: p59 :: p60 :: p61 :: p62 :: p63 :: p64 :: p65 :: p66 :: p67 :: p68 :: p69 :: p70 :: p71 :: p72 :: p73 :: p74 :: p75 :: p76 :: p77 :: p78 :: p79 :: p80 :: p81 :: p82 :: p83 :: p84 :: p85 :: p86 :: p87 :: p88 :: p89 :: p90 :: p91 :: p92 :: p93 :: p94 :: p95 :: p96 :: p97 :: p98 :: p99 :: p100 :: p101 :: p102 :: p103 :: p104 :: p105 :: p106 :: p107 :: p108 :: p109 :: p110 :: p111 :: p112 :: p113 :: p114 :: p115 :: p116 :: p117 :: p118 :: p119 :: p120 :: p121 :: p122 :: p123 :: p124 :: p125 :: p126 :: p127 :: p128 :: p129 :: p130 :: p131 :: p132 :: p133 :: p134 :: p135 :: p136 :: p137 :: p138 :: p139 :: p140 :: p141 :: p142 :: p143 :: p144 :: p145 :: p146 :: p147 :: p148 :: p149 :: p150 :: p151 :: p152 :: p153 :: p154 :: p155 :: p156 :: p157 :: p158 :: p159 :: p160 :: p161 :: p162 :: p163 :: []), defers := [] }

theorem step_ok {w w2 : World} {v : Value} {R : Result Next} {J : World → Value → Prop} (h : R = .ok (.value v) w2) (h2 : Ext No w w2 ∧ J w2 v) : ∃ v w', R = .ok (.value v) w' ∧ Ext No w w' ∧ J w' v := ⟨v, w2, h, h2⟩

def IA (n : Nat) : Nat → World → Value → Prop
  | 0, w, v => ∃ b, v = .slice (some ⟨b, 0, none⟩) 8 8 ∧ Blk w b (rep 8 (.slice none 0 0)) 42 ∧ n ≤ b
  | 1, w, v => ∃ b, v = .slice (some ⟨b, 0, none⟩) 4096 4096 ∧ Blk w b (rep 4096 (.int .i64 0)) 3 ∧ n ≤ b
  | 2, w, v => ∃ b c, v = .agg #[.int .i64 8, .int .i64 1024, .slice (some ⟨b, 0, none⟩) 8 8, .slice (some ⟨c, 0, none⟩) 4096 4096] ∧ Blk w b (rep 8 (.slice none 0 0)) 42 ∧ Blk w c (rep 4096 (.int .i64 0)) 3 ∧ n ≤ b ∧ n ≤ c
  | 3, w, v => ∃ b, v = .pointer (some ⟨b, 0, none⟩) ∧ Blk w b [.int .i64 0, .int .i64 0, .slice none 0 0, .slice none 0 0] 27 ∧ n ≤ b
  | _, _, _ => True
theorem IA.x (n : Nat) : ∀ i w w' v, IA n i w v → Ext No w w' → IA n i w' v
  | 0, _, _, _, ⟨b, e, h, h1⟩, hx => ⟨b, e, h.extNo hx, h1⟩
  | 1, _, _, _, ⟨b, e, h, h1⟩, hx => ⟨b, e, h.extNo hx, h1⟩
  | 2, _, _, _, ⟨b, c, e, h, h2, h1⟩, hx => ⟨b, c, e, h.extNo hx, h2.extNo hx, h1⟩
  | 3, _, _, _, ⟨b, e, h, h1⟩, hx => ⟨b, e, h.extNo hx, h1⟩
  | _ + 4, _, _, _, _, _ => trivial
def IB (d b k base : Nat) : Nat → World → Value → Prop
  | 0, _, v => v = .pointer (some ⟨d, 2, none⟩)
  | 1, _, v => v = .slice (some ⟨b, 0, none⟩) 8 8
  | 2, _, v => v = .int .i64 k
  | 3, w, v => ∃ x, v = .slice (some ⟨x, 0, none⟩) 64 64 ∧ Blk w x (rep 256 (.int .i64 0)) 44 ∧ base ≤ x
  | 4, _, v => v = .pointer (some ⟨b, k, none⟩)
  | _, _, _ => True
theorem IB.x (d b k base : Nat) : ∀ i w w' v, IB d b k base i w v → Ext No w w' → IB d b k base i w' v
  | 0, _, _, _, h, _ => h
  | 1, _, _, _, h, _ => h
  | 2, _, _, _, h, _ => h
  | 3, _, _, _, ⟨x, e, h, h2⟩, hx => ⟨x, e, h.extNo hx, h2⟩
  | 4, _, _, _, h, _ => h
  | _ + 5, _, _, _, _, _ => trivial
/-- What region 11's operations yield. -/
def IR (ll : List (List Cl)) (w : World) (v : Value) : Prop := ∃ b n, v = .slice (some ⟨b, 0, none⟩) n n ∧ RdCC Tr Tr w (.slice (some ⟨b, 0, none⟩) n n) ll
def IQ (l : List Cl) (w : World) (v : Value) : Prop := ∃ b n, v = .slice (some ⟨b, 0, none⟩) n n ∧ RdC Tr w (.slice (some ⟨b, 0, none⟩) n n) l
def IN (l : List Int) (w : World) (v : Value) : Prop := ∃ b n, v = .slice (some ⟨b, 0, none⟩) n n ∧ RdI Tr w (.slice (some ⟨b, 0, none⟩) n n) l
def IS (s : Scr) (w : World) (v : Value) : Prop := ∃ (ac : Option Addr) (nc cc : Nat) (ap : Option Addr) (np cp : Nat), v = .agg #[.int .i64 s.cpus, .int .i64 s.pages, .slice ac nc cc, .slice ap np cp] ∧
  RdCC Tr Tr w (.slice ac nc cc) s.calls ∧ RdI Tr w (.slice ap np cp) s.picks
def IK (w : World) (v : Value) : Prop := ∃ b cs, v = .slice (some ⟨b, 0, none⟩) 14 14 ∧ Blk w b cs 27 ∧ ∀ i, i < 14 → ∃ (ac : Option Addr) (nc cc : Nat) (ap : Option Addr) (np cp : Nat),
  cs[i * 4]? = some (.int .i64 (nth bads i).cpus) ∧ cs[i * 4 + 1]? = some (.int .i64 (nth bads i).pages) ∧ cs[i * 4 + 2]? = some (.slice ac nc cc) ∧ cs[i * 4 + 3]? = some (.slice ap np cp) ∧
  RdCC Tr Tr w (.slice ac nc cc) (nth bads i).calls ∧ RdI Tr w (.slice ap np cp) (nth bads i).picks
section
variable {w w' : World} {v : Value}
theorem IR.x {ll : List (List Cl)} : IR ll w v → Ext No w w' → IR ll w' v := fun ⟨b, n, e, h⟩ hx => ⟨b, n, e, h.x hx⟩
theorem IQ.x {l : List Cl} : IQ l w v → Ext No w w' → IQ l w' v := fun ⟨b, n, e, h⟩ hx => ⟨b, n, e, h.x hx⟩
theorem IN.x {l : List Int} : IN l w v → Ext No w w' → IN l w' v := fun ⟨b, n, e, h⟩ hx => ⟨b, n, e, h.x hx⟩
theorem IS.x {s : Scr} : IS s w v → Ext No w w' → IS s w' v := fun ⟨ac, nc, cc, ap, np, cp, e, h, h2⟩ hx => ⟨ac, nc, cc, ap, np, cp, e, h.x hx, h2.x hx⟩
theorem IK.x : IK w v → Ext No w w' → IK w' v := fun ⟨b, cs, e, h, h2⟩ hx => ⟨b, cs, e, h.extNo hx, fun i hi => by
  obtain ⟨ac, nc, cc, ap, np, cp, e1, e2, e3, e4, h3, h4⟩ := h2 i hi
  exact ⟨ac, nc, cc, ap, np, cp, e1, e2, e3, e4, h3.x hx, h4.x hx⟩⟩
end
def IC (ob ab : Nat) : Nat → World → Value → Prop
  | 0, w, v => IS ⟨0, 0, [], []⟩ w v
  | 1, w, v => IS ⟨1, 1, [], []⟩ w v
  | 2, w, v => ∃ b, v = .slice (some ⟨b, 0, none⟩) 9 9 ∧ Blk w b (rep 9 (.slice none 0 0)) 42
  | 3, w, v => IS ⟨9, 1, rep 9 [], []⟩ w v
  | 4, _, v => v = .pointer (some ⟨ob, 2, none⟩)
  | 5, _, v => v = .slice (some ⟨ab, 0, none⟩) 1 1
  | 6, w, v => IS ⟨1, 0, rep 1 [], []⟩ w v
  | 7, _, v => v = .pointer (some ⟨ob, 2, none⟩)
  | 8, _, v => v = .slice (some ⟨ab, 0, none⟩) 1 1
  | 9, w, v => IS ⟨1, 1025, rep 1 [], []⟩ w v
  | 10, w, v => ∃ b, v = .slice (some ⟨b, 0, none⟩) 65 65 ∧ Blk w b (rep 260 (.int .i64 0)) 44
  | 11, w, v => IR [rep 65 cl0] w v
  | 12, w, v => IS ⟨1, 1, [rep 65 cl0], []⟩ w v
  | 13, _, v => v = .agg #[.int .i64 (14), .int .i64 (0), .int .i64 (0), .int .i64 (0)]
  | 14, w, v => IQ [⟨14, 0, 0, 0⟩] w v
  | 15, w, v => IR [[⟨14, 0, 0, 0⟩]] w v
  | 16, w, v => IS ⟨1, 1, [[⟨14, 0, 0, 0⟩]], []⟩ w v
  | 17, _, v => v = .agg #[.int .i64 (-1), .int .i64 (0), .int .i64 (0), .int .i64 (0)]
  | 18, w, v => IQ [⟨-1, 0, 0, 0⟩] w v
  | 19, w, v => IR [[⟨-1, 0, 0, 0⟩]] w v
  | 20, w, v => IS ⟨1, 1, [[⟨-1, 0, 0, 0⟩]], []⟩ w v
  | 21, _, v => v = .agg #[.int .i64 (0), .int .i64 (256), .int .i64 (0), .int .i64 (0)]
  | 22, w, v => IQ [⟨0, 256, 0, 0⟩] w v
  | 23, w, v => IR [[⟨0, 256, 0, 0⟩]] w v
  | 24, w, v => IS ⟨1, 1, [[⟨0, 256, 0, 0⟩]], []⟩ w v
  | 25, _, v => v = .agg #[.int .i64 (0), .int .i64 (0), .int .i64 (65536), .int .i64 (0)]
  | 26, w, v => IQ [⟨0, 0, 65536, 0⟩] w v
  | 27, w, v => IR [[⟨0, 0, 65536, 0⟩]] w v
  | 28, w, v => IS ⟨1, 1, [[⟨0, 0, 65536, 0⟩]], []⟩ w v
  | 29, _, v => v = .agg #[.int .i64 (0), .int .i64 (0), .int .i64 (0), .int .i64 (-1)]
  | 30, w, v => IQ [⟨0, 0, 0, -1⟩] w v
  | 31, w, v => IR [[⟨0, 0, 0, -1⟩]] w v
  | 32, w, v => IS ⟨1, 1, [[⟨0, 0, 0, -1⟩]], []⟩ w v
  | 33, _, v => v = .pointer (some ⟨ob, 2, none⟩)
  | 34, _, v => v = .slice (some ⟨ab, 0, none⟩) 1 1
  | 35, w, v => IN [256] w v
  | 36, w, v => IS ⟨1, 1, rep 1 [], [256]⟩ w v
  | 37, _, v => v = .pointer (some ⟨ob, 2, none⟩)
  | 38, _, v => v = .slice (some ⟨ab, 0, none⟩) 1 1
  | 39, w, v => IN [-1] w v
  | 40, w, v => IS ⟨1, 1, rep 1 [], [-1]⟩ w v
  | 41, _, v => v = .pointer (some ⟨ob, 2, none⟩)
  | 42, _, v => v = .slice (some ⟨ab, 0, none⟩) 1 1
  | 43, w, v => ∃ b, v = .slice (some ⟨b, 0, none⟩) 4097 4097 ∧ Blk w b (rep 4097 (.int .i64 0)) 3
  | 44, w, v => IS ⟨1, 1, rep 1 [], rep 4097 0⟩ w v
  | 45, w, v => IK w v
  | _, _, _ => True
theorem IC.x (ob ab : Nat) : ∀ i w w' v, IC ob ab i w v → Ext No w w' → IC ob ab i w' v
  | 0, _, _, _, h, hx => IS.x h hx
  | 1, _, _, _, h, hx => IS.x h hx
  | 2, _, _, _, ⟨b, e, h⟩, hx => ⟨b, e, h.extNo hx⟩
  | 3, _, _, _, h, hx => IS.x h hx
  | 4, _, _, _, h, _ => h
  | 5, _, _, _, h, _ => h
  | 6, _, _, _, h, hx => IS.x h hx
  | 7, _, _, _, h, _ => h
  | 8, _, _, _, h, _ => h
  | 9, _, _, _, h, hx => IS.x h hx
  | 10, _, _, _, ⟨b, e, h⟩, hx => ⟨b, e, h.extNo hx⟩
  | 11, _, _, _, h, hx => IR.x h hx
  | 12, _, _, _, h, hx => IS.x h hx
  | 13, _, _, _, h, _ => h
  | 14, _, _, _, h, hx => IQ.x h hx
  | 15, _, _, _, h, hx => IR.x h hx
  | 16, _, _, _, h, hx => IS.x h hx
  | 17, _, _, _, h, _ => h
  | 18, _, _, _, h, hx => IQ.x h hx
  | 19, _, _, _, h, hx => IR.x h hx
  | 20, _, _, _, h, hx => IS.x h hx
  | 21, _, _, _, h, _ => h
  | 22, _, _, _, h, hx => IQ.x h hx
  | 23, _, _, _, h, hx => IR.x h hx
  | 24, _, _, _, h, hx => IS.x h hx
  | 25, _, _, _, h, _ => h
  | 26, _, _, _, h, hx => IQ.x h hx
  | 27, _, _, _, h, hx => IR.x h hx
  | 28, _, _, _, h, hx => IS.x h hx
  | 29, _, _, _, h, _ => h
  | 30, _, _, _, h, hx => IQ.x h hx
  | 31, _, _, _, h, hx => IR.x h hx
  | 32, _, _, _, h, hx => IS.x h hx
  | 33, _, _, _, h, _ => h
  | 34, _, _, _, h, _ => h
  | 35, _, _, _, h, hx => IN.x h hx
  | 36, _, _, _, h, hx => IS.x h hx
  | 37, _, _, _, h, _ => h
  | 38, _, _, _, h, _ => h
  | 39, _, _, _, h, hx => IN.x h hx
  | 40, _, _, _, h, hx => IS.x h hx
  | 41, _, _, _, h, _ => h
  | 42, _, _, _, h, _ => h
  | 43, _, _, _, ⟨b, e, h⟩, hx => ⟨b, e, h.extNo hx⟩
  | 44, _, _, _, h, hx => IS.x h hx
  | 45, _, _, _, h, hx => IK.x h hx
  | _ + 46, _, _, _, _, _ => trivial

set_option maxRecDepth 100000 in
set_option maxHeartbeats 3200000 in
theorem tapeKnown_core (w : World) :
    Calls Try.prog 8 #[] w fun e w' => e = .returned (.bool true) ∧ Ext No w w' := by
  have m8 : ∀ w : World, (Instr.makeSlice 24 (.int .i64 8) (.int .i64 8)).run Try.prog w = .ok (.slice (some ⟨w.heap.size, 0, none⟩) 8 8) (w.alloc (.cells (rep 8 (.slice none 0 0)).toArray 42)) := mkr mk_rows 8 8 (by decide) (by decide) rfl
  have m4096 : ∀ w : World, (Instr.makeSlice 25 (.int .i64 4096) (.int .i64 4096)).run Try.prog w = .ok (.slice (some ⟨w.heap.size, 0, none⟩) 4096 4096) (w.alloc (.cells (rep 4096 (.int .i64 0)).toArray 3)) := mkr mk_int 4096 4096 (by decide) (by decide) rfl
  have m64 : ∀ w : World, (Instr.makeSlice 42 (.int .i64 64) (.int .i64 64)).run Try.prog w = .ok (.slice (some ⟨w.heap.size, 0, none⟩) 64 64) (w.alloc (.cells (rep 256 (.int .i64 0)).toArray 44)) := mkr mk_call 64 256 (by decide) (by decide) rfl
  have m1 : ∀ w : World, (Instr.makeSlice 24 (.int .i64 1) (.int .i64 1)).run Try.prog w = .ok (.slice (some ⟨w.heap.size, 0, none⟩) 1 1) (w.alloc (.cells (rep 1 (.slice none 0 0)).toArray 42)) := mkr mk_rows 1 1 (by decide) (by decide) rfl
  have m9 : ∀ w : World, (Instr.makeSlice 24 (.int .i64 9) (.int .i64 9)).run Try.prog w = .ok (.slice (some ⟨w.heap.size, 0, none⟩) 9 9) (w.alloc (.cells (rep 9 (.slice none 0 0)).toArray 42)) := mkr mk_rows 9 9 (by decide) (by decide) rfl
  have m65 : ∀ w : World, (Instr.makeSlice 42 (.int .i64 65) (.int .i64 65)).run Try.prog w = .ok (.slice (some ⟨w.heap.size, 0, none⟩) 65 65) (w.alloc (.cells (rep 260 (.int .i64 0)).toArray 44)) := mkr mk_call 65 260 (by decide) (by decide) rfl
  have m4097 : ∀ w : World, (Instr.makeSlice 25 (.int .i64 4097) (.int .i64 4097)).run Try.prog w = .ok (.slice (some ⟨w.heap.size, 0, none⟩) 4097 4097) (w.alloc (.cells (rep 4097 (.int .i64 0)).toArray 3)) := mkr mk_int 4097 4097 (by decide) (by decide) rfl
  have m9000 : ∀ w : World, (Instr.makeSlice 22 (.int .i64 9000) (.int .i64 9000)).run Try.prog w = .ok (.slice (some ⟨w.heap.size, 0, none⟩) 9000 9000) (w.alloc (.cells (rep 9000 (.int .u8 0)).toArray 5)) := mkr mk_byte 9000 9000 (by decide) (by decide) rfl
  go_enter Try.func8, Try.ntmps8
  go_wp2_with fail
  refine wp_region_inv (frmA _ _ _ _ _ _ _ _ _ _ _ _ _ _ _ _ _ _ _ _ _ _ _ _ _ _ _ _ _ _ _ _ _ _ _ _ _ _ _ _ _ _ _ _ _ _ _ _ _ _ _ _ _ _ _ _ _ _ _ _ _ _ _ _ _ _ _ _ _ _ _ _ _ _ _ _ _ _ _ _ _ _ _ _ _ _ _ _ _ _ _ _ _ _ _ _ _ _ _ _ _ _ _ _ _ _ _ _ _ _ _ _ _ _ _ _ _ _ _ _ _ _ _ _ _ _ _ _ _ _ _ _ _ _ _ _ _ _ _ _ _ _ _ _ _ _ _ _ _ _ _ _ _ _ _ _ _ _ _ _) (IA w.heap.size) (fun _ => undef) (by kernel_rfl) (by kernel_rfl) (by decide) rfl ?_ ?_ ?_
  · exact IA.x _
  · refine ⟨⟨fun u v => by kernel_rfl, fun u w' hx hd => ?_⟩, ⟨fun u v => by kernel_rfl, fun u w' hx hd => ?_⟩, ⟨fun u v => by kernel_rfl, fun u w' hx hd => ?_⟩, ⟨fun u v => by kernel_rfl, fun u w' hx hd => ?_⟩, trivial⟩
    · unfold frmA
      refine step_ok (v := ?_) (w2 := ?_) ?_ ?_
      rotate_left 2
      · go_simp; refine ⟨?_, ?_⟩ <;> with_reducible rfl
      · exact ⟨(Ext.refl _ _).alloc _, _, rfl, Blk.new _ _ _, hx.size⟩
    · unfold frmA
      refine step_ok (v := ?_) (w2 := ?_) ?_ ?_
      rotate_left 2
      · go_simp; refine ⟨?_, ?_⟩ <;> with_reducible rfl
      · exact ⟨(Ext.refl _ _).alloc _, _, rfl, Blk.new _ _ _, hx.size⟩
    · obtain ⟨b, h0, hb, hb0⟩ := hd { on := 0, ground := Ground.data } (by simp) rfl
      obtain ⟨c, h1, hc, hc0⟩ := hd { on := 1, ground := Ground.data } (by simp) rfl
      dsimp only at h0 h1
      unfold frmA
      refine step_ok (v := ?_) (w2 := ?_) ?_ ?_
      rotate_left 2
      · rw [h0, h1]; go_simp; refine ⟨?_, ?_⟩ <;> with_reducible rfl
      · exact ⟨Ext.refl _ _, _, _, rfl, hb, hc, hb0, hc0⟩
    · unfold frmA
      refine step_ok (v := ?_) (w2 := ?_) ?_ ?_
      rotate_left 2
      · go_simp; refine ⟨?_, ?_⟩ <;> with_reducible rfl
      · exact ⟨(Ext.refl _ _).alloc _, _, rfl, Blk.new _ _ _, hx.size⟩
  intro o ho u w1 hx hu
  cases ho
  obtain ⟨b, c, h2, hb, hc, hb0, hc0⟩ := hu 2 (by decide)
  obtain ⟨d, h3, hd, hd0⟩ := hu 3 (by decide)
  unfold frmA
  rw [h2, h3]
  clear hu h2 h3
  obtain ⟨u0, hu0⟩ : ∃ x, u 0 = x := ⟨_, rfl⟩
  obtain ⟨u1, hu1⟩ : ∃ x, u 1 = x := ⟨_, rfl⟩
  rw [hu0, hu1]
  clear hu0 hu1 u
  have d0 := hd.cell' (i := 0) rfl
  have d1 := hd.cell' (i := 1) rfl
  have d2 := hd.cell' (i := 2) rfl
  have d3 := hd.cell' (i := 3) rfl
  have f0 := hd.frozen 0
  have f1 := hd.frozen 1
  have f2 := hd.frozen 2
  have f3 := hd.frozen 3
  go_simp
  have hD := ((((hd.set 0 (.int .i64 8)).set 1 (.int .i64 1024)).set 2 (.slice (some ⟨b, 0, none⟩) 8 8)).set 3 (.slice (some ⟨c, 0, none⟩) 4096 4096))
  have hbd := hb.ne hd (by decide)
  have hcd := hc.ne hd (by decide)
  have hcb := hc.ne hb (by decide)
  have hB := (((hb.setOther ⟨d, 0, none⟩ (.int .i64 8) hbd).setOther ⟨d, 1, none⟩ (.int .i64 1024) hbd).setOther ⟨d, 2, none⟩ (.slice (some ⟨b, 0, none⟩) 8 8) hbd).setOther ⟨d, 3, none⟩ (.slice (some ⟨c, 0, none⟩) 4096 4096) hbd
  have hC := (((hc.setOther ⟨d, 0, none⟩ (.int .i64 8) hcd).setOther ⟨d, 1, none⟩ (.int .i64 1024) hcd).setOther ⟨d, 2, none⟩ (.slice (some ⟨b, 0, none⟩) 8 8) hcd).setOther ⟨d, 3, none⟩ (.slice (some ⟨c, 0, none⟩) 4096 4096) hcd
  have hXs : Ext (One d) w1 ((((w1.setCell ⟨d, 0, none⟩ (.int .i64 8)).setCell ⟨d, 1, none⟩ (.int .i64 1024)).setCell ⟨d, 2, none⟩ (.slice (some ⟨b, 0, none⟩) 8 8)).setCell ⟨d, 3, none⟩ (.slice (some ⟨c, 0, none⟩) 4096 4096)) := (((Ext.set1 _ _ _ _).trans (Ext.set1 _ _ _ _) (fun _ _ h => h)).trans (Ext.set1 _ _ _ _) (fun _ _ h => h)).trans (Ext.set1 _ _ _ _) (fun _ _ h => h)
  have X1 : Ext No w ((((w1.setCell ⟨d, 0, none⟩ (.int .i64 8)).setCell ⟨d, 1, none⟩ (.int .i64 1024)).setCell ⟨d, 2, none⟩ (.slice (some ⟨b, 0, none⟩) 8 8)).setCell ⟨d, 3, none⟩ (.slice (some ⟨c, 0, none⟩) 4096 4096)) := hx.trans hXs (fun x hx h => by have : x = d := h; omega)
  obtain ⟨W1, hW1⟩ : ∃ W, (((w1.setCell ⟨d, 0, none⟩ (.int .i64 8)).setCell ⟨d, 1, none⟩ (.int .i64 1024)).setCell ⟨d, 2, none⟩ (.slice (some ⟨b, 0, none⟩) 8 8)).setCell ⟨d, 3, none⟩ (.slice (some ⟨c, 0, none⟩) 4096 4096) = W := ⟨_, rfl⟩
  rw [hW1] at hD hB hC X1 ⊢
  simp only [List.set_cons_zero, List.set_cons_succ] at hD
  clear hW1 hXs d0 d1 d2 d3 f0 f1 f2 f3 hd hb hc hx w1
  go_wp2_with fail
  go_loopg [2] 8 (fun g i wr => ∃ bs : List Nat, bs.length + g = 8 ∧ i = .int .i64 bs.length ∧ Blk wr b (rows8 bs) 42 ∧ (∀ x ∈ bs, W1.heap.size ≤ x ∧ Blk wr x (rep 256 (.int .i64 0)) 44) ∧ Ext (One b) W1 wr)
  case atStart => exact ⟨[], rfl, rfl, hB, fun x hx => by simp at hx, Ext.refl _ _⟩
  case round =>
    obtain ⟨bs, hk, rfl, hBr, hbs, hxr⟩ := hrel
    have hk' := Lib.hid hk
    obtain ⟨k, hkb⟩ : ∃ k, bs.length = k := ⟨_, rfl⟩
    have hkn : k ≤ 8 := by omega
    have hkbH := Lib.hid hkb
    rw [hkb]
    clear hk
    have hDr := hD.extOne hxr (Ne.symm hbd)
    by_cases hlt : k < 8
    · have hat := rows8_at bs (by omega)
      rw [hkb] at hat
      clear hkb
      go_wp2_with fail
      refine wp_region_inv (frmB _ _ _ _ _ _ _ _ _ _ _ _ _ _ _ _ _ _ _ _ _ _ _ _ _ _ _ _ _ _ _ _ _ _ _ _ _ _ _ _ _ _ _ _ _ _ _ _ _ _ _ _ _ _ _ _ _ _ _ _ _ _ _ _ _ _ _ _ _ _ _ _ _ _ _ _ _ _ _ _ _ _ _ _ _ _ _ _ _ _ _ _ _ _ _ _ _ _ _ _ _ _ _ _ _ _ _ _ _ _ _ _ _ _ _ _ _ _ _ _ _ _ _ _ _ _ _ _ _ _ _ _ _ _ _ _ _ _ _ _ _ _ _ _ _ _ _ _ _ _ _ _ _ _ _ _ _ _ _) (IB d b k W1.heap.size) (ls [_, _, _, _, _]) (by kernel_rfl) (by kernel_rfl) (by decide) rfl ?_ ?_ ?_
      · exact IB.x _ _ _ _
      · refine ⟨⟨fun u v => by kernel_rfl, fun u w' hx hd => ?_⟩, ⟨fun u v => by kernel_rfl, fun u w' hx hd => ?_⟩, ⟨fun u v => by kernel_rfl, fun u w' hx hd => ?_⟩, ⟨fun u v => by kernel_rfl, fun u w' hx hd => ?_⟩, ⟨fun u v => by kernel_rfl, fun u w' hx hd => ?_⟩, trivial⟩
        · unfold frmB
          refine step_ok (v := ?_) (w2 := ?_) ?_ ?_
          rotate_left 2
          · go_simp; refine ⟨?_, ?_⟩ <;> with_reducible rfl
          · exact ⟨Ext.refl _ _, rfl⟩
        · have h0 := hd { on := 0, ground := Ground.data } (by simp) rfl
          dsimp only [IB] at h0
          have c2 := (hDr.extNo hx).cell' (i := 2) rfl
          unfold frmB
          refine step_ok (v := ?_) (w2 := ?_) ?_ ?_
          rotate_left 2
          · rw [h0]; go_simp; refine ⟨?_, ?_⟩ <;> with_reducible rfl
          · exact ⟨Ext.refl _ _, rfl⟩
        · unfold frmB
          refine step_ok (v := ?_) (w2 := ?_) ?_ ?_
          rotate_left 2
          · go_simp; refine ⟨?_, ?_⟩ <;> with_reducible rfl
          · exact ⟨Ext.refl _ _, rfl⟩
        · unfold frmB
          refine step_ok (v := ?_) (w2 := ?_) ?_ ?_
          rotate_left 2
          · go_simp; refine ⟨?_, ?_⟩ <;> with_reducible rfl
          · exact ⟨(Ext.refl _ _).alloc _, _, rfl, Blk.new _ _ _, Nat.le_trans hxr.size hx.size⟩
        · have h1 := hd { on := 1, ground := Ground.data } (by simp) rfl
          have h2 := hd { on := 2, ground := Ground.data } (by simp) rfl
          dsimp only [IB] at h1 h2
          unfold frmB
          refine step_ok (v := ?_) (w2 := ?_) ?_ ?_
          rotate_left 2
          · rw [h1, h2]; go_simp; refine ⟨?_, ?_⟩ <;> with_reducible rfl
          · exact ⟨Ext.refl _ _, rfl⟩
      intro o ho u w1 hx hu
      cases ho
      have h0 := hu 0 (by decide)
      have h1 := hu 1 (by decide)
      have h2 := hu 2 (by decide)
      obtain ⟨x, h3, hbx, hx0⟩ := hu 3 (by decide)
      have h4 := hu 4 (by decide)
      dsimp only [IB] at h0 h1 h2 h4
      unfold frmB
      rw [h0, h1, h2, h3, h4]
      clear hu h0 h1 h2 h3 h4 u
      have hB1 := hBr.extNo hx
      have c0 := hB1.cell' hat
      have f0 := hB1.frozen k
      go_simp
      have hbx' := hB1.ne hbx (by decide)
      have hB2 := hB1.set k (sl64 x)
      have hx2 := hbx.setOther ⟨b, k, none⟩ (sl64 x) (Ne.symm hbx')
      have hset := rows8_set bs (by have := hkbH.out; omega) x
      rw [hkbH.out] at hset
      rw [hset] at hB2
      have hXs : Ext (One b) wr (w1.setCell ⟨b, k, none⟩ (sl64 x)) := (hx.of_no).transSame (Ext.set1 _ _ _ _)
      have hall : ∀ y ∈ bs ++ [x], W1.heap.size ≤ y ∧ Blk (w1.setCell ⟨b, k, none⟩ (sl64 x)) y (rep 256 (.int .i64 0)) 44 := fun y hy => by
        rcases List.mem_append.1 hy with h | h
        · obtain ⟨h1, h2⟩ := hbs y h
          have h3 := h2.extNo hx
          exact ⟨h1, h3.setOther ⟨b, k, none⟩ (sl64 x) (Ne.symm (hB1.ne h3 (by decide)))⟩
        · have : y = x := by simpa using h
          subst this
          exact ⟨hx0, hx2⟩
      obtain ⟨W2, hW2⟩ : ∃ W, w1.setCell ⟨b, k, none⟩ (sl64 x) = W := ⟨_, rfl⟩
      rw [hW2] at hB2 hXs hall
      rw [show w1.setCell ⟨b, k, none⟩ (.slice (some ⟨x, 0, none⟩) 64 64) = W2 from hW2]
      clear hW2 hx2 hset c0 f0 hB1 hbx hbx' hat hDr hx
      go_wp2_with fail
      go_roundg (8 - (k + 1))
      case measure => (have := hkbH.out; have := hk'.out; omega)
      case rel =>
        have hkb := hkbH.out
        have hkk := hk'.out
        exact ⟨bs ++ [x], by simp; omega, by rw [show (bs ++ [x]).length = k + 1 by simp [hkb]]; go_num, hB2, hall, hxr.trans hXs (fun x _ h => h)⟩
    · obtain rfl : k = 8 := by omega
      have hkb := hkbH.out
      clear hk' hkbH hlt hkn
      obtain ⟨x, hx⟩ : ∃ x, nth bs 7 = x := ⟨_, rfl⟩
      have hrow : (rows8 bs)[7]? = some (.slice (some ⟨x, 0, none⟩) 64 64) := by
        unfold rows8
        rw [List.getElem?_append_left (by simp; omega), List.getElem?_map, nth_some (by omega), hx]
        rfl
      obtain ⟨hxW, hBx⟩ := hbs x (by rw [← hx, nth_eq (by omega)]; exact List.getElem_mem _)
      have hC1 := hC.extOne hxr hcb
      have hxd := hBx.ne hDr (by decide)
      have hxc := hBx.ne hC1 (by decide)
      have hxb := hBx.ne hBr (by decide)
      have e252 : (rep 256 (Value.int .i64 0))[252]? = some (.int .i64 0) := by kernel_rfl
      have e253 : (rep 256 (Value.int .i64 0))[253]? = some (.int .i64 0) := by kernel_rfl
      have e254 : (rep 256 (Value.int .i64 0))[254]? = some (.int .i64 0) := by kernel_rfl
      have e255 : (rep 256 (Value.int .i64 0))[255]? = some (.int .i64 0) := by kernel_rfl
      have e4095 : (rep 4096 (Value.int .i64 0))[4095]? = some (.int .i64 0) := by simp only [rep]; rw [List.getElem?_replicate, if_pos (by decide)]
      have d0 := hDr.cell' (i := 0) rfl
      have d1 := hDr.cell' (i := 1) rfl
      have d2 := hDr.cell' (i := 2) rfl
      have d3 := hDr.cell' (i := 3) rfl
      have b7 := hBr.cell' hrow
      have x0 := hBx.cell' e252
      have x1 := hBx.cell' e253
      have x2 := hBx.cell' e254
      have x3 := hBx.cell' e255
      have g0 := hBx.frozen 252
      have g1 := hBx.frozen 253
      have g2 := hBx.frozen 254
      have g3 := hBx.frozen 255
      have c0 := hC1.cell' e4095
      have c1 := hC1.frozen 4095
      have hdx := Ne.symm hxd
      have hcx := Ne.symm hxc
      have hdc := Ne.symm hcd
      clear e252 e253 e254 e255 e4095 hrow
      go_wp2_with fail
      have hfull := full_rd hBr hC1 (fun y hy => (hbs y hy).2) hkb (x := x) (by rw [← hx, nth_eq (by omega)]; exact List.getElem_mem _)
      have hfit := fullOf_fit x bs hkb
      have hX3 : Ext No w (full4 wr x c) := (X1.trans hxr (fun y hy h => by have : y = b := h; omega)).trans (full4_ext wr x c) (fun y hy h => by have := X1.size; rcases h with h | h <;> omega)
      have hD3 := full4_other hDr hdx hdc
      obtain ⟨W3, hW3⟩ : ∃ W, full4 wr x c = W := ⟨_, rfl⟩
      rw [hW3] at hfull hX3 hD3
      rw [show (((((wr.setCell ⟨x, 252, none⟩ (.int .i64 13)).setCell ⟨x, 253, none⟩ (.int .i64 255)).setCell ⟨x, 254, none⟩ (.int .i64 65535)).setCell ⟨x, 255, none⟩ (.int .i64 255)).setCell ⟨c, 4095, none⟩ (.int .i64 255)) = W3 from hW3]
      obtain ⟨sF, hsF⟩ : ∃ s, fullOf x bs = s := ⟨_, rfl⟩
      rw [hsF] at hfull hfit
      clear hsF hW3 hkb hx hxW hBx hC1 hxd hxc hxb d0 d1 d2 d3 b7 x0 x1 x2 x3 g0 g1 g2 g3 c0 c1 hdx hcx hdc hbs hBr hDr hxr hD hB hC X1
      refine (whole_tr _ _ _ hfull).mono ?_
      rintro e w4 ⟨rfl, hx4⟩
      have hD4 := hD3.extNo hx4
      have d0 := hD4.cell' (i := 0) rfl
      have d1 := hD4.cell' (i := 1) rfl
      have d2 := hD4.cell' (i := 2) rfl
      have d3 := hD4.cell' (i := 3) rfl
      go_wp2_with fail
      refine (bytes_tr _ _ _ (hfull.x hx4) hfit).mono ?_
      rintro e w5 ⟨rfl, hx5⟩
      have hx45 := hx4.transNo hx5
      clear d0 d1 d2 d3
      have hD5 := hD4.extNo hx5
      have d0 := hD5.cell' (i := 0) rfl
      have d1 := hD5.cell' (i := 1) rfl
      have d2 := hD5.cell' (i := 2) rfl
      have d3 := hD5.cell' (i := 3) rfl
      go_wp2_with fail
      refine (apart_tr _ _ _ _ _ (hfull.x hx45) (hfull.x hx45)).mono ?_
      rintro e w6 ⟨rfl, hx6⟩
      have X6 := (hX3.transNo hx45).transNo hx6
      clear d0 d1 d2 d3 hD3 hD4 hD5 hx4 hx5 hx45 hx6 hfull hfit hX3 sF W3 w4 w5
      go_wp2_with fail
      have hab : Blk ((w6.alloc (.cells (rep 1 (.slice none 0 0)).toArray 42)).alloc (.cells #[.int .i64 1, .int .i64 1, .slice (some ⟨w6.heap.size, 0, none⟩) 1 1, .slice none 0 0] 27)) w6.heap.size (rep 1 (.slice none 0 0)) 42 := (Blk.new _ _ _).alloc _
      have hob : Blk ((w6.alloc (.cells (rep 1 (.slice none 0 0)).toArray 42)).alloc (.cells #[.int .i64 1, .int .i64 1, .slice (some ⟨w6.heap.size, 0, none⟩) 1 1, .slice none 0 0] 27)) (w6.heap.size + 1) [.int .i64 1, .int .i64 1, .slice (some ⟨w6.heap.size, 0, none⟩) 1 1, .slice none 0 0] 27 := Blk.new' (by simp)
      have X7 : Ext No w ((w6.alloc (.cells (rep 1 (.slice none 0 0)).toArray 42)).alloc (.cells #[.int .i64 1, .int .i64 1, .slice (some ⟨w6.heap.size, 0, none⟩) 1 1, .slice none 0 0] 27)) := (X6.alloc _).alloc _
      obtain ⟨W7, hW7⟩ : ∃ W, (w6.alloc (.cells (rep 1 (.slice none 0 0)).toArray 42)).alloc (.cells #[.int .i64 1, .int .i64 1, .slice (some ⟨w6.heap.size, 0, none⟩) 1 1, .slice none 0 0] 27) = W := ⟨_, rfl⟩
      rw [hW7] at hab hob X7 ⊢
      obtain ⟨ab, hab0⟩ : ∃ x, w6.heap.size = x := ⟨_, rfl⟩
      rw [hab0] at hab hob ⊢
      obtain ⟨ob, hob0⟩ : ∃ x, ab + 1 = x := ⟨_, rfl⟩
      rw [hob0] at hob ⊢
      clear hob0 hab0 hW7 X6
      refine wp_region_inv (frmC _ _ _ _ _ _ _ _ _ _ _ _ _ _ _ _ _ _ _ _ _ _ _ _ _ _ _ _ _ _ _ _ _ _ _ _ _ _ _ _ _ _ _ _ _ _ _ _ _ _ _ _ _ _ _ _ _ _ _ _ _ _ _ _ _ _ _ _ _ _ _ _ _ _ _ _ _ _ _ _ _ _ _ _ _ _ _ _ _ _ _ _ _ _ _ _ _ _ _ _ _ _ _ _ _ _ _ _ _ _ _ _ _ _ _ _ _ _) (IC ob ab) (fun _ => undef) (by kernel_rfl) (by kernel_rfl) (by decide) rfl ?_ ?_ ?_
      · exact IC.x _ _
      · refine ⟨⟨fun u v => by kernel_rfl, fun u w2 hx hd => ?_⟩, ⟨fun u v => by kernel_rfl, fun u w2 hx hd => ?_⟩, ⟨fun u v => by kernel_rfl, fun u w2 hx hd => ?_⟩, ⟨fun u v => by kernel_rfl, fun u w2 hx hd => ?_⟩, ⟨fun u v => by kernel_rfl, fun u w2 hx hd => ?_⟩, ⟨fun u v => by kernel_rfl, fun u w2 hx hd => ?_⟩, ⟨fun u v => by kernel_rfl, fun u w2 hx hd => ?_⟩, ⟨fun u v => by kernel_rfl, fun u w2 hx hd => ?_⟩, ⟨fun u v => by kernel_rfl, fun u w2 hx hd => ?_⟩, ⟨fun u v => by kernel_rfl, fun u w2 hx hd => ?_⟩, ⟨fun u v => by kernel_rfl, fun u w2 hx hd => ?_⟩, ⟨fun u v => by kernel_rfl, fun u w2 hx hd => ?_⟩, ⟨fun u v => by kernel_rfl, fun u w2 hx hd => ?_⟩, ⟨fun u v => by kernel_rfl, fun u w2 hx hd => ?_⟩, ⟨fun u v => by kernel_rfl, fun u w2 hx hd => ?_⟩, ⟨fun u v => by kernel_rfl, fun u w2 hx hd => ?_⟩, ⟨fun u v => by kernel_rfl, fun u w2 hx hd => ?_⟩, ⟨fun u v => by kernel_rfl, fun u w2 hx hd => ?_⟩, ⟨fun u v => by kernel_rfl, fun u w2 hx hd => ?_⟩, ⟨fun u v => by kernel_rfl, fun u w2 hx hd => ?_⟩, ⟨fun u v => by kernel_rfl, fun u w2 hx hd => ?_⟩, ⟨fun u v => by kernel_rfl, fun u w2 hx hd => ?_⟩, ⟨fun u v => by kernel_rfl, fun u w2 hx hd => ?_⟩, ⟨fun u v => by kernel_rfl, fun u w2 hx hd => ?_⟩, ⟨fun u v => by kernel_rfl, fun u w2 hx hd => ?_⟩, ⟨fun u v => by kernel_rfl, fun u w2 hx hd => ?_⟩, ⟨fun u v => by kernel_rfl, fun u w2 hx hd => ?_⟩, ⟨fun u v => by kernel_rfl, fun u w2 hx hd => ?_⟩, ⟨fun u v => by kernel_rfl, fun u w2 hx hd => ?_⟩, ⟨fun u v => by kernel_rfl, fun u w2 hx hd => ?_⟩, ⟨fun u v => by kernel_rfl, fun u w2 hx hd => ?_⟩, ⟨fun u v => by kernel_rfl, fun u w2 hx hd => ?_⟩, ⟨fun u v => by kernel_rfl, fun u w2 hx hd => ?_⟩, ⟨fun u v => by kernel_rfl, fun u w2 hx hd => ?_⟩, ⟨fun u v => by kernel_rfl, fun u w2 hx hd => ?_⟩, ⟨fun u v => by kernel_rfl, fun u w2 hx hd => ?_⟩, ⟨fun u v => by kernel_rfl, fun u w2 hx hd => ?_⟩, ⟨fun u v => by kernel_rfl, fun u w2 hx hd => ?_⟩, ⟨fun u v => by kernel_rfl, fun u w2 hx hd => ?_⟩, ⟨fun u v => by kernel_rfl, fun u w2 hx hd => ?_⟩, ⟨fun u v => by kernel_rfl, fun u w2 hx hd => ?_⟩, ⟨fun u v => by kernel_rfl, fun u w2 hx hd => ?_⟩, ⟨fun u v => by kernel_rfl, fun u w2 hx hd => ?_⟩, ⟨fun u v => by kernel_rfl, fun u w2 hx hd => ?_⟩, ⟨fun u v => by kernel_rfl, fun u w2 hx hd => ?_⟩, ⟨fun u v => by kernel_rfl, fun u w2 hx hd => ?_⟩, trivial⟩
        · unfold frmC
          refine step_ok (v := ?_) (w2 := ?_) ?_ ?_
          rotate_left 2
          · go_simp; refine ⟨?_, ?_⟩ <;> with_reducible rfl
          · exact ⟨Ext.refl _ _, _, _, _, _, _, _, rfl, rdCC_nil _, rdI_nil _⟩
        · unfold frmC
          refine step_ok (v := ?_) (w2 := ?_) ?_ ?_
          rotate_left 2
          · go_simp; refine ⟨?_, ?_⟩ <;> with_reducible rfl
          · exact ⟨Ext.refl _ _, _, _, _, _, _, _, rfl, rdCC_nil _, rdI_nil _⟩
        · unfold frmC
          refine step_ok (v := ?_) (w2 := ?_) ?_ ?_
          rotate_left 2
          · go_simp; refine ⟨?_, ?_⟩ <;> with_reducible rfl
          · exact ⟨(Ext.refl _ _).alloc _, _, rfl, Blk.new _ _ _⟩
        · have h2 := hd { on := 2, ground := Ground.data } (by simp) rfl
          obtain ⟨b, e2, h2⟩ := h2
          unfold frmC
          refine step_ok (v := ?_) (w2 := ?_) ?_ ?_
          rotate_left 2
          · rw [e2]; go_simp; refine ⟨?_, ?_⟩ <;> with_reducible rfl
          · exact ⟨Ext.refl _ _, _, _, _, _, _, _, rfl, rdCC_nils h2 (by decide), rdI_nil _⟩
        · unfold frmC
          refine step_ok (v := ?_) (w2 := ?_) ?_ ?_
          rotate_left 2
          · go_simp; refine ⟨?_, ?_⟩ <;> with_reducible rfl
          · exact ⟨Ext.refl _ _, rfl⟩
        · have h4 := hd { on := 4, ground := Ground.data } (by simp) rfl
          dsimp only [IC] at h4
          have c2 := (hob.extNo hx).cell' (i := 2) rfl
          unfold frmC
          refine step_ok (v := ?_) (w2 := ?_) ?_ ?_
          rotate_left 2
          · rw [h4]; go_simp; refine ⟨?_, ?_⟩ <;> with_reducible rfl
          · exact ⟨Ext.refl _ _, rfl⟩
        · have h5 := hd { on := 5, ground := Ground.data } (by simp) rfl
          dsimp only [IC] at h5
          unfold frmC
          refine step_ok (v := ?_) (w2 := ?_) ?_ ?_
          rotate_left 2
          · rw [h5]; go_simp; refine ⟨?_, ?_⟩ <;> with_reducible rfl
          · exact ⟨Ext.refl _ _, _, _, _, _, _, _, rfl, (rdCC_nils (hab.extNo hx) (by decide)), rdI_nil _⟩
        · unfold frmC
          refine step_ok (v := ?_) (w2 := ?_) ?_ ?_
          rotate_left 2
          · go_simp; refine ⟨?_, ?_⟩ <;> with_reducible rfl
          · exact ⟨Ext.refl _ _, rfl⟩
        · have h7 := hd { on := 7, ground := Ground.data } (by simp) rfl
          dsimp only [IC] at h7
          have c2 := (hob.extNo hx).cell' (i := 2) rfl
          unfold frmC
          refine step_ok (v := ?_) (w2 := ?_) ?_ ?_
          rotate_left 2
          · rw [h7]; go_simp; refine ⟨?_, ?_⟩ <;> with_reducible rfl
          · exact ⟨Ext.refl _ _, rfl⟩
        · have h8 := hd { on := 8, ground := Ground.data } (by simp) rfl
          dsimp only [IC] at h8
          unfold frmC
          refine step_ok (v := ?_) (w2 := ?_) ?_ ?_
          rotate_left 2
          · rw [h8]; go_simp; refine ⟨?_, ?_⟩ <;> with_reducible rfl
          · exact ⟨Ext.refl _ _, _, _, _, _, _, _, rfl, (rdCC_nils (hab.extNo hx) (by decide)), rdI_nil _⟩
        · unfold frmC
          refine step_ok (v := ?_) (w2 := ?_) ?_ ?_
          rotate_left 2
          · go_simp; refine ⟨?_, ?_⟩ <;> with_reducible rfl
          · exact ⟨(Ext.refl _ _).alloc _, _, rfl, Blk.new _ _ _⟩
        · have h10 := hd { on := 10, ground := Ground.data } (by simp) rfl
          obtain ⟨b, e10, h10⟩ := h10
          unfold frmC
          refine step_ok (v := ?_) (w2 := ?_) ?_ ?_
          rotate_left 2
          · rw [e10]; go_simp; refine ⟨?_, ?_⟩ <;> with_reducible rfl
          · exact ⟨(Ext.refl _ _).alloc _, _, _, rfl, rdCC_one (Blk.new _ _ _) ((rdC_blk h10 (cls_rep 65 260 rfl) (rep_len _ _) (by decide)).x ((Ext.refl _ _).alloc _))⟩
        · have h11 := hd { on := 11, ground := Ground.data } (by simp) rfl
          obtain ⟨b, n, e11, h11⟩ := h11
          unfold frmC
          refine step_ok (v := ?_) (w2 := ?_) ?_ ?_
          rotate_left 2
          · rw [e11]; go_simp; refine ⟨?_, ?_⟩ <;> with_reducible rfl
          · exact ⟨Ext.refl _ _, _, _, _, _, _, _, rfl, h11, rdI_nil _⟩
        · unfold frmC
          refine step_ok (v := ?_) (w2 := ?_) ?_ ?_
          rotate_left 2
          · go_simp; refine ⟨?_, ?_⟩ <;> with_reducible rfl
          · exact ⟨Ext.refl _ _, rfl⟩
        · have h13 := hd { on := 13, ground := Ground.data } (by simp) rfl
          dsimp only [IC] at h13
          unfold frmC
          refine step_ok (v := ?_) (w2 := ?_) ?_ ?_
          rotate_left 2
          · rw [h13]; go_simp; refine ⟨?_, ?_⟩ <;> with_reducible rfl
          · exact ⟨(Ext.refl _ _).alloc _, _, _, rfl, rdC_blk (Blk.new _ _ _) rfl rfl (by decide)⟩
        · have h14 := hd { on := 14, ground := Ground.data } (by simp) rfl
          obtain ⟨b, n, e, h⟩ := h14
          unfold frmC
          refine step_ok (v := ?_) (w2 := ?_) ?_ ?_
          rotate_left 2
          · rw [e]; go_simp; refine ⟨?_, ?_⟩ <;> with_reducible rfl
          · exact ⟨(Ext.refl _ _).alloc _, _, _, rfl, rdCC_one (Blk.new _ _ _) (h.x ((Ext.refl _ _).alloc _))⟩
        · have h15 := hd { on := 15, ground := Ground.data } (by simp) rfl
          obtain ⟨b, n, e, h⟩ := h15
          unfold frmC
          refine step_ok (v := ?_) (w2 := ?_) ?_ ?_
          rotate_left 2
          · rw [e]; go_simp; refine ⟨?_, ?_⟩ <;> with_reducible rfl
          · exact ⟨Ext.refl _ _, _, _, _, _, _, _, rfl, h, rdI_nil _⟩
        · unfold frmC
          refine step_ok (v := ?_) (w2 := ?_) ?_ ?_
          rotate_left 2
          · go_simp; refine ⟨?_, ?_⟩ <;> with_reducible rfl
          · exact ⟨Ext.refl _ _, rfl⟩
        · have h17 := hd { on := 17, ground := Ground.data } (by simp) rfl
          dsimp only [IC] at h17
          unfold frmC
          refine step_ok (v := ?_) (w2 := ?_) ?_ ?_
          rotate_left 2
          · rw [h17]; go_simp; refine ⟨?_, ?_⟩ <;> with_reducible rfl
          · exact ⟨(Ext.refl _ _).alloc _, _, _, rfl, rdC_blk (Blk.new _ _ _) rfl rfl (by decide)⟩
        · have h18 := hd { on := 18, ground := Ground.data } (by simp) rfl
          obtain ⟨b, n, e, h⟩ := h18
          unfold frmC
          refine step_ok (v := ?_) (w2 := ?_) ?_ ?_
          rotate_left 2
          · rw [e]; go_simp; refine ⟨?_, ?_⟩ <;> with_reducible rfl
          · exact ⟨(Ext.refl _ _).alloc _, _, _, rfl, rdCC_one (Blk.new _ _ _) (h.x ((Ext.refl _ _).alloc _))⟩
        · have h19 := hd { on := 19, ground := Ground.data } (by simp) rfl
          obtain ⟨b, n, e, h⟩ := h19
          unfold frmC
          refine step_ok (v := ?_) (w2 := ?_) ?_ ?_
          rotate_left 2
          · rw [e]; go_simp; refine ⟨?_, ?_⟩ <;> with_reducible rfl
          · exact ⟨Ext.refl _ _, _, _, _, _, _, _, rfl, h, rdI_nil _⟩
        · unfold frmC
          refine step_ok (v := ?_) (w2 := ?_) ?_ ?_
          rotate_left 2
          · go_simp; refine ⟨?_, ?_⟩ <;> with_reducible rfl
          · exact ⟨Ext.refl _ _, rfl⟩
        · have h21 := hd { on := 21, ground := Ground.data } (by simp) rfl
          dsimp only [IC] at h21
          unfold frmC
          refine step_ok (v := ?_) (w2 := ?_) ?_ ?_
          rotate_left 2
          · rw [h21]; go_simp; refine ⟨?_, ?_⟩ <;> with_reducible rfl
          · exact ⟨(Ext.refl _ _).alloc _, _, _, rfl, rdC_blk (Blk.new _ _ _) rfl rfl (by decide)⟩
        · have h22 := hd { on := 22, ground := Ground.data } (by simp) rfl
          obtain ⟨b, n, e, h⟩ := h22
          unfold frmC
          refine step_ok (v := ?_) (w2 := ?_) ?_ ?_
          rotate_left 2
          · rw [e]; go_simp; refine ⟨?_, ?_⟩ <;> with_reducible rfl
          · exact ⟨(Ext.refl _ _).alloc _, _, _, rfl, rdCC_one (Blk.new _ _ _) (h.x ((Ext.refl _ _).alloc _))⟩
        · have h23 := hd { on := 23, ground := Ground.data } (by simp) rfl
          obtain ⟨b, n, e, h⟩ := h23
          unfold frmC
          refine step_ok (v := ?_) (w2 := ?_) ?_ ?_
          rotate_left 2
          · rw [e]; go_simp; refine ⟨?_, ?_⟩ <;> with_reducible rfl
          · exact ⟨Ext.refl _ _, _, _, _, _, _, _, rfl, h, rdI_nil _⟩
        · unfold frmC
          refine step_ok (v := ?_) (w2 := ?_) ?_ ?_
          rotate_left 2
          · go_simp; refine ⟨?_, ?_⟩ <;> with_reducible rfl
          · exact ⟨Ext.refl _ _, rfl⟩
        · have h25 := hd { on := 25, ground := Ground.data } (by simp) rfl
          dsimp only [IC] at h25
          unfold frmC
          refine step_ok (v := ?_) (w2 := ?_) ?_ ?_
          rotate_left 2
          · rw [h25]; go_simp; refine ⟨?_, ?_⟩ <;> with_reducible rfl
          · exact ⟨(Ext.refl _ _).alloc _, _, _, rfl, rdC_blk (Blk.new _ _ _) rfl rfl (by decide)⟩
        · have h26 := hd { on := 26, ground := Ground.data } (by simp) rfl
          obtain ⟨b, n, e, h⟩ := h26
          unfold frmC
          refine step_ok (v := ?_) (w2 := ?_) ?_ ?_
          rotate_left 2
          · rw [e]; go_simp; refine ⟨?_, ?_⟩ <;> with_reducible rfl
          · exact ⟨(Ext.refl _ _).alloc _, _, _, rfl, rdCC_one (Blk.new _ _ _) (h.x ((Ext.refl _ _).alloc _))⟩
        · have h27 := hd { on := 27, ground := Ground.data } (by simp) rfl
          obtain ⟨b, n, e, h⟩ := h27
          unfold frmC
          refine step_ok (v := ?_) (w2 := ?_) ?_ ?_
          rotate_left 2
          · rw [e]; go_simp; refine ⟨?_, ?_⟩ <;> with_reducible rfl
          · exact ⟨Ext.refl _ _, _, _, _, _, _, _, rfl, h, rdI_nil _⟩
        · unfold frmC
          refine step_ok (v := ?_) (w2 := ?_) ?_ ?_
          rotate_left 2
          · go_simp; refine ⟨?_, ?_⟩ <;> with_reducible rfl
          · exact ⟨Ext.refl _ _, rfl⟩
        · have h29 := hd { on := 29, ground := Ground.data } (by simp) rfl
          dsimp only [IC] at h29
          unfold frmC
          refine step_ok (v := ?_) (w2 := ?_) ?_ ?_
          rotate_left 2
          · rw [h29]; go_simp; refine ⟨?_, ?_⟩ <;> with_reducible rfl
          · exact ⟨(Ext.refl _ _).alloc _, _, _, rfl, rdC_blk (Blk.new _ _ _) rfl rfl (by decide)⟩
        · have h30 := hd { on := 30, ground := Ground.data } (by simp) rfl
          obtain ⟨b, n, e, h⟩ := h30
          unfold frmC
          refine step_ok (v := ?_) (w2 := ?_) ?_ ?_
          rotate_left 2
          · rw [e]; go_simp; refine ⟨?_, ?_⟩ <;> with_reducible rfl
          · exact ⟨(Ext.refl _ _).alloc _, _, _, rfl, rdCC_one (Blk.new _ _ _) (h.x ((Ext.refl _ _).alloc _))⟩
        · have h31 := hd { on := 31, ground := Ground.data } (by simp) rfl
          obtain ⟨b, n, e, h⟩ := h31
          unfold frmC
          refine step_ok (v := ?_) (w2 := ?_) ?_ ?_
          rotate_left 2
          · rw [e]; go_simp; refine ⟨?_, ?_⟩ <;> with_reducible rfl
          · exact ⟨Ext.refl _ _, _, _, _, _, _, _, rfl, h, rdI_nil _⟩
        · unfold frmC
          refine step_ok (v := ?_) (w2 := ?_) ?_ ?_
          rotate_left 2
          · go_simp; refine ⟨?_, ?_⟩ <;> with_reducible rfl
          · exact ⟨Ext.refl _ _, rfl⟩
        · have h33 := hd { on := 33, ground := Ground.data } (by simp) rfl
          dsimp only [IC] at h33
          have c2 := (hob.extNo hx).cell' (i := 2) rfl
          unfold frmC
          refine step_ok (v := ?_) (w2 := ?_) ?_ ?_
          rotate_left 2
          · rw [h33]; go_simp; refine ⟨?_, ?_⟩ <;> with_reducible rfl
          · exact ⟨Ext.refl _ _, rfl⟩
        · unfold frmC
          refine step_ok (v := ?_) (w2 := ?_) ?_ ?_
          rotate_left 2
          · go_simp; refine ⟨?_, ?_⟩ <;> with_reducible rfl
          · exact ⟨(Ext.refl _ _).alloc _, _, _, rfl, rdI_blk (Blk.new _ _ _) rfl rfl (by decide)⟩
        · have h34 := hd { on := 34, ground := Ground.data } (by simp) rfl
          dsimp only [IC] at h34
          have h35 := hd { on := 35, ground := Ground.data } (by simp) rfl
          obtain ⟨b, n, e, h⟩ := h35
          unfold frmC
          refine step_ok (v := ?_) (w2 := ?_) ?_ ?_
          rotate_left 2
          · rw [h34, e]; go_simp; refine ⟨?_, ?_⟩ <;> with_reducible rfl
          · exact ⟨Ext.refl _ _, _, _, _, _, _, _, rfl, (rdCC_nils (hab.extNo hx) (by decide)), h⟩
        · unfold frmC
          refine step_ok (v := ?_) (w2 := ?_) ?_ ?_
          rotate_left 2
          · go_simp; refine ⟨?_, ?_⟩ <;> with_reducible rfl
          · exact ⟨Ext.refl _ _, rfl⟩
        · have h37 := hd { on := 37, ground := Ground.data } (by simp) rfl
          dsimp only [IC] at h37
          have c2 := (hob.extNo hx).cell' (i := 2) rfl
          unfold frmC
          refine step_ok (v := ?_) (w2 := ?_) ?_ ?_
          rotate_left 2
          · rw [h37]; go_simp; refine ⟨?_, ?_⟩ <;> with_reducible rfl
          · exact ⟨Ext.refl _ _, rfl⟩
        · unfold frmC
          refine step_ok (v := ?_) (w2 := ?_) ?_ ?_
          rotate_left 2
          · go_simp; refine ⟨?_, ?_⟩ <;> with_reducible rfl
          · exact ⟨(Ext.refl _ _).alloc _, _, _, rfl, rdI_blk (Blk.new _ _ _) rfl rfl (by decide)⟩
        · have h38 := hd { on := 38, ground := Ground.data } (by simp) rfl
          dsimp only [IC] at h38
          have h39 := hd { on := 39, ground := Ground.data } (by simp) rfl
          obtain ⟨b, n, e, h⟩ := h39
          unfold frmC
          refine step_ok (v := ?_) (w2 := ?_) ?_ ?_
          rotate_left 2
          · rw [h38, e]; go_simp; refine ⟨?_, ?_⟩ <;> with_reducible rfl
          · exact ⟨Ext.refl _ _, _, _, _, _, _, _, rfl, (rdCC_nils (hab.extNo hx) (by decide)), h⟩
        · unfold frmC
          refine step_ok (v := ?_) (w2 := ?_) ?_ ?_
          rotate_left 2
          · go_simp; refine ⟨?_, ?_⟩ <;> with_reducible rfl
          · exact ⟨Ext.refl _ _, rfl⟩
        · have h41 := hd { on := 41, ground := Ground.data } (by simp) rfl
          dsimp only [IC] at h41
          have c2 := (hob.extNo hx).cell' (i := 2) rfl
          unfold frmC
          refine step_ok (v := ?_) (w2 := ?_) ?_ ?_
          rotate_left 2
          · rw [h41]; go_simp; refine ⟨?_, ?_⟩ <;> with_reducible rfl
          · exact ⟨Ext.refl _ _, rfl⟩
        · unfold frmC
          refine step_ok (v := ?_) (w2 := ?_) ?_ ?_
          rotate_left 2
          · go_simp; refine ⟨?_, ?_⟩ <;> with_reducible rfl
          · exact ⟨(Ext.refl _ _).alloc _, _, rfl, Blk.new _ _ _⟩
        · have h42 := hd { on := 42, ground := Ground.data } (by simp) rfl
          dsimp only [IC] at h42
          have h43 := hd { on := 43, ground := Ground.data } (by simp) rfl
          obtain ⟨b, e43, h43⟩ := h43
          unfold frmC
          refine step_ok (v := ?_) (w2 := ?_) ?_ ?_
          rotate_left 2
          · rw [h42, e43]; go_simp; refine ⟨?_, ?_⟩ <;> with_reducible rfl
          · exact ⟨Ext.refl _ _, _, _, _, _, _, _, rfl, (rdCC_nils (hab.extNo hx) (by decide)), rdI_blk h43 (int_rep _) (rep_len _ _) (by decide)⟩
        · have h0 := hd { on := 0, ground := Ground.data } (by simp) rfl
          obtain ⟨ac0, nc0, cc0, ap0, np0, cp0, e0, hc0, hp0⟩ := h0
          have h1 := hd { on := 1, ground := Ground.data } (by simp) rfl
          obtain ⟨ac1, nc1, cc1, ap1, np1, cp1, e1, hc1, hp1⟩ := h1
          have h3 := hd { on := 3, ground := Ground.data } (by simp) rfl
          obtain ⟨ac2, nc2, cc2, ap2, np2, cp2, e2, hc2, hp2⟩ := h3
          have h6 := hd { on := 6, ground := Ground.data } (by simp) rfl
          obtain ⟨ac3, nc3, cc3, ap3, np3, cp3, e3, hc3, hp3⟩ := h6
          have h9 := hd { on := 9, ground := Ground.data } (by simp) rfl
          obtain ⟨ac4, nc4, cc4, ap4, np4, cp4, e4, hc4, hp4⟩ := h9
          have h12 := hd { on := 12, ground := Ground.data } (by simp) rfl
          obtain ⟨ac5, nc5, cc5, ap5, np5, cp5, e5, hc5, hp5⟩ := h12
          have h16 := hd { on := 16, ground := Ground.data } (by simp) rfl
          obtain ⟨ac6, nc6, cc6, ap6, np6, cp6, e6, hc6, hp6⟩ := h16
          have h20 := hd { on := 20, ground := Ground.data } (by simp) rfl
          obtain ⟨ac7, nc7, cc7, ap7, np7, cp7, e7, hc7, hp7⟩ := h20
          have h24 := hd { on := 24, ground := Ground.data } (by simp) rfl
          obtain ⟨ac8, nc8, cc8, ap8, np8, cp8, e8, hc8, hp8⟩ := h24
          have h28 := hd { on := 28, ground := Ground.data } (by simp) rfl
          obtain ⟨ac9, nc9, cc9, ap9, np9, cp9, e9, hc9, hp9⟩ := h28
          have h32 := hd { on := 32, ground := Ground.data } (by simp) rfl
          obtain ⟨ac10, nc10, cc10, ap10, np10, cp10, e10, hc10, hp10⟩ := h32
          have h36 := hd { on := 36, ground := Ground.data } (by simp) rfl
          obtain ⟨ac11, nc11, cc11, ap11, np11, cp11, e11, hc11, hp11⟩ := h36
          have h40 := hd { on := 40, ground := Ground.data } (by simp) rfl
          obtain ⟨ac12, nc12, cc12, ap12, np12, cp12, e12, hc12, hp12⟩ := h40
          have h44 := hd { on := 44, ground := Ground.data } (by simp) rfl
          obtain ⟨ac13, nc13, cc13, ap13, np13, cp13, e13, hc13, hp13⟩ := h44
          unfold frmC
          refine step_ok (v := ?_) (w2 := ?_) ?_ ?_
          rotate_left 2
          · rw [e0, e1, e2, e3, e4, e5, e6, e7, e8, e9, e10, e11, e12, e13]; go_simp; refine ⟨?_, ?_⟩ <;> with_reducible rfl
          · exact ⟨(Ext.refl _ _).alloc _, _, _, rfl, Blk.new _ _ _, forall14 ⟨_, _, _, _, _, _, rfl, rfl, rfl, rfl, hc0.x ((Ext.refl _ _).alloc _), hp0.x ((Ext.refl _ _).alloc _)⟩ ⟨_, _, _, _, _, _, rfl, rfl, rfl, rfl, hc1.x ((Ext.refl _ _).alloc _), hp1.x ((Ext.refl _ _).alloc _)⟩ ⟨_, _, _, _, _, _, rfl, rfl, rfl, rfl, hc2.x ((Ext.refl _ _).alloc _), hp2.x ((Ext.refl _ _).alloc _)⟩ ⟨_, _, _, _, _, _, rfl, rfl, rfl, rfl, hc3.x ((Ext.refl _ _).alloc _), hp3.x ((Ext.refl _ _).alloc _)⟩ ⟨_, _, _, _, _, _, rfl, rfl, rfl, rfl, hc4.x ((Ext.refl _ _).alloc _), hp4.x ((Ext.refl _ _).alloc _)⟩ ⟨_, _, _, _, _, _, rfl, rfl, rfl, rfl, hc5.x ((Ext.refl _ _).alloc _), hp5.x ((Ext.refl _ _).alloc _)⟩ ⟨_, _, _, _, _, _, rfl, rfl, rfl, rfl, hc6.x ((Ext.refl _ _).alloc _), hp6.x ((Ext.refl _ _).alloc _)⟩ ⟨_, _, _, _, _, _, rfl, rfl, rfl, rfl, hc7.x ((Ext.refl _ _).alloc _), hp7.x ((Ext.refl _ _).alloc _)⟩ ⟨_, _, _, _, _, _, rfl, rfl, rfl, rfl, hc8.x ((Ext.refl _ _).alloc _), hp8.x ((Ext.refl _ _).alloc _)⟩ ⟨_, _, _, _, _, _, rfl, rfl, rfl, rfl, hc9.x ((Ext.refl _ _).alloc _), hp9.x ((Ext.refl _ _).alloc _)⟩ ⟨_, _, _, _, _, _, rfl, rfl, rfl, rfl, hc10.x ((Ext.refl _ _).alloc _), hp10.x ((Ext.refl _ _).alloc _)⟩ ⟨_, _, _, _, _, _, rfl, rfl, rfl, rfl, hc11.x ((Ext.refl _ _).alloc _), hp11.x ((Ext.refl _ _).alloc _)⟩ ⟨_, _, _, _, _, _, rfl, rfl, rfl, rfl, hc12.x ((Ext.refl _ _).alloc _), hp12.x ((Ext.refl _ _).alloc _)⟩ ⟨_, _, _, _, _, _, rfl, rfl, rfl, rfl, hc13.x ((Ext.refl _ _).alloc _), hp13.x ((Ext.refl _ _).alloc _)⟩⟩
      intro o ho u w1 hx hu
      cases ho
      obtain ⟨bb, cs, h45, hbb, hbad⟩ := hu 45 (by decide)
      unfold frmC
      rw [h45]
      go_simp
      clear hu h45
      have X8 := X7.transNo hx
      have hob1 := hob.extNo hx
      have hone := one_rd (hab.extNo hx)
      clear hab hob hx X7
      go_wp2_with fail
      go_loopg [5] 14 (fun g i wr => ∃ k : Nat, k + g = 14 ∧ i = .int .i64 k ∧ Ext No w1 wr)
      case atStart => exact ⟨0, by omega, rfl, Ext.refl _ _⟩
      case round =>
        obtain ⟨k, hk, rfl, hxr⟩ := hrel
        have hk' := Lib.hid hk
        have hkn : k ≤ 14 := by omega
        clear hk
        have hbr := hbb.extNo hxr
        by_cases hlt : k < 14
        · obtain ⟨ac, nc, cc, ap, np, cp, e1, e2, e3, e4, hcc, hpi⟩ := hbad k hlt
          have hS : RdS Tr w1 (.agg #[.int .i64 (nth bads k).cpus, .int .i64 (nth bads k).pages, .slice ac nc cc, .slice ap np cp]) (nth bads k) := ⟨_, _, rfl, hcc, hpi⟩
          have hE := bad_err k hlt
          have hF := bad_fit k hlt
          obtain ⟨s, hs⟩ : ∃ s, nth bads k = s := ⟨_, rfl⟩
          rw [hs] at e1 e2 hS hE hF
          clear hs hcc hpi
          have hEH := Lib.hid hE
          clear hE
          have c0 := hbr.cell' e1
          have c1 := hbr.cell' e2
          have c2 := hbr.cell' e3
          have c3 := hbr.cell' e4
          go_wp2_with fail
          refine (check_spec _ _ s _ (hS.x hxr)).mono ?_
          rintro e w2 ⟨rfl, hx2⟩
          rw [hEH.out]
          have hxr2 := hxr.transNo hx2
          have hb2 := hbb.extNo hxr2
          clear c0 c1 c2 c3
          have c0 := hb2.cell' e1
          have c1 := hb2.cell' e2
          have c2 := hb2.cell' e3
          have c3 := hb2.cell' e4
          go_wp2_with fail
          refine (whole_tr _ _ _ (hS.x hxr2)).mono ?_
          rintro e w3 ⟨rfl, hx3⟩
          have hxr3 := hxr2.transNo hx3
          have hb3 := hbb.extNo hxr3
          clear c0 c1 c2 c3
          have c0 := hb3.cell' e1
          have c1 := hb3.cell' e2
          have c2 := hb3.cell' e3
          have c3 := hb3.cell' e4
          go_wp2_with fail
          refine (bytes_tr _ _ _ (hS.x hxr3) hF).mono ?_
          rintro e w4 ⟨rfl, hx4⟩
          have hxr4 := hxr3.transNo hx4
          clear c0 c1 c2 c3 e1 e2 e3 e4 hS hF hEH hbr hb2 hb3
          go_wp2_with fail
          go_roundg (14 - (k + 1))
          case measure => (have := hk'.out; omega)
          case rel =>
            have := hk'.out
            exact ⟨k + 1, by omega, by go_num, hxr4⟩
        · obtain rfl : k = 14 := by omega
          have X9 := X8.transNo hxr
          have hob2 := hob1.extNo hxr
          have hone := hone.x hxr
          clear hk' hkn hlt hbad hbb hbr hob1 X8 hxr
          go_wp2_with fail
          go_loopg [6] 256 (fun g i ws => ∃ k : Nat, k + g = 256 ∧ i = .int .i64 k ∧ Ext No wr ws)
          case atStart => exact ⟨0, by omega, rfl, Ext.refl _ _⟩
          case round =>
            obtain ⟨k, hk, rfl, hxs⟩ := hrel
            have hk' := Lib.hid hk
            have hkn : k ≤ 256 := by omega
            clear hk
            by_cases hlt : k < 256
            · go_wp2_with fail
              have hxW := hxs.alloc (.cells #[.int .u8 (k : Int), .int .u8 ((k : Int) * 3 % 256), .int .u8 (k : Int), .int .u8 (k : Int), .int .u8 (k : Int), .int .u8 1, .int .u8 2, .int .u8 3, .int .u8 4, .int .u8 (k : Int)] 5)
              obtain ⟨W, hW⟩ : ∃ W, wr.alloc (.cells #[.int .u8 (k : Int), .int .u8 ((k : Int) * 3 % 256), .int .u8 (k : Int), .int .u8 (k : Int), .int .u8 (k : Int), .int .u8 1, .int .u8 2, .int .u8 3, .int .u8 4, .int .u8 (k : Int)] 5) = W := ⟨_, rfl⟩
              have hT : Blk W wr.heap.size ((tenOf k).map byt) 5 := by
                rw [← ten_cells, ← hW]
                exact Blk.new _ _ _
              rw [hW] at hxW
              rw [hW]
              obtain ⟨tb, htb⟩ : ∃ x, wr.heap.size = x := ⟨_, rfl⟩
              rw [htb] at hT ⊢
              clear hW htb hxs
              refine (scripts_ten _ _ k 10 hT hlt (by decide)).mono ?_
              rintro e w2 ⟨rfl, hx2⟩
              have hT := hT.extNo hx2
              have hxW := hxW.transNo hx2
              go_wp2_with fail
              refine (back_ten _ _ k 10 hT hlt (by decide)).mono ?_
              rintro e w3 ⟨rfl, hx3⟩
              have hT := hT.extNo hx3
              have hxW := hxW.transNo hx3
              clear hx2 hx3
              go_wp2_with fail
              refine (scripts_ten _ _ k (k % 10) hT hlt (by omega)).mono ?_
              rintro e w4 ⟨rfl, hx4⟩
              have hxW := hxW.transNo hx4
              clear hT hx4
              go_wp2_with fail
              go_roundg (256 - (k + 1))
              case measure => (have := hk'.out; omega)
              case rel =>
                have := hk'.out
                exact ⟨k + 1, by omega, by go_num, hxW⟩
            · obtain rfl : k = 256 := by omega
              have X10 := X9.transNo hxs
              have hob3 := hob2.extNo hxs
              have hone := hone.x hxs
              clear hk' hkn hlt hob2 X9 hxs
              have d0 := hob3.cell' (i := 0) rfl
              have d1 := hob3.cell' (i := 1) rfl
              have d2 := hob3.cell' (i := 2) rfl
              have d3 := hob3.cell' (i := 3) rfl
              go_wp2_with fail
              refine (works29_spec _).mono ?_
              rintro e w2 ⟨rfl, hx2⟩
              have X11 := X10.transNo hx2
              have hone := hone.x hx2
              have hob4 := hob3.extNo hx2
              clear d0 d1 d2 d3 hob3
              have d0 := hob4.cell' (i := 0) rfl
              have d1 := hob4.cell' (i := 1) rfl
              have d2 := hob4.cell' (i := 2) rfl
              have d3 := hob4.cell' (i := 3) rfl
              go_wp2_with fail
              refine (whole_tr _ _ _ hone).mono ?_
              rintro e w3 ⟨rfl, hx3⟩
              have X12 := X11.transNo hx3
              clear d0 d1 d2 d3 hob4 hone X10 X11 hx2 hx3
              go_wp2_with fail
              refine (back_zeros _ _ (Blk.new _ _ _)).mono ?_
              rintro e w4 ⟨rfl, hx4⟩
              have X13 := (X12.alloc _).transNo hx4
              clear X12 hx4
              go_wp2_with fail
              go_ret
              exact ⟨rfl, X13⟩
/-- The walk, as the statement's lifting wants it. -/
theorem tapeKnown_walk (w : World) : Calls Try.prog 8 #[] w fun e w' => e = .returned (.bool true) ∧ Below w.heap.size w w' :=
  (tapeKnown_core w).mono fun _ _ h => ⟨h.1, h.2.belowNo⟩
end Go.Proofs.Ytjkknjohmekeiaa
