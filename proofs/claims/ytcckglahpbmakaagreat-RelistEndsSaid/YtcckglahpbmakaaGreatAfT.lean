/-
The functions' abstract texts, by their numbers.
-/
import Derived.Test.YtcckglahpbmakaaGreatAf1
namespace Go.Eng.AF
open Go Go.Eng
def s11 : FT := (.node (.node (.node (.node .nil 3 f3 .nil) 4 f4 .nil) 8 f8 (.node (.node .nil 9 f9 .nil) 10 f10 .nil)) 11 f11 (.node (.node (.node .nil 12 f12 .nil) 13 f13 .nil) 14 f14 (.node .nil 15 f15 .nil)))
def s22 : FT := (.node (.node (.node (.node .nil 17 f17 .nil) 18 f18 .nil) 19 f19 (.node (.node .nil 20 f20 .nil) 21 f21 .nil)) 22 f22 (.node (.node (.node .nil 23 f23 .nil) 24 f24 .nil) 25 f25 (.node .nil 26 f26 .nil)))
def s38 : FT := (.node (.node (.node (.node .nil 33 f33 .nil) 34 f34 .nil) 35 f35 (.node (.node .nil 36 f36 .nil) 37 f37 .nil)) 38 f38 (.node (.node (.node .nil 39 f39 .nil) 40 f40 .nil) 41 f41 (.node .nil 42 f42 .nil)))
def s49 : FT := (.node (.node (.node (.node .nil 44 f44 .nil) 45 f45 .nil) 46 f46 (.node (.node .nil 47 f47 .nil) 48 f48 .nil)) 49 f49 (.node (.node (.node .nil 50 f50 .nil) 51 f51 .nil) 52 f52 (.node .nil 54 f54 .nil)))
def s62 : FT := (.node (.node (.node (.node .nil 56 f56 .nil) 58 f58 .nil) 59 f59 (.node (.node .nil 60 f60 .nil) 61 f61 .nil)) 62 f62 (.node (.node (.node .nil 63 f63 .nil) 64 f64 .nil) 65 f65 (.node .nil 66 f66 .nil)))
def s73 : FT := (.node (.node (.node (.node .nil 68 f68 .nil) 69 f69 .nil) 70 f70 (.node (.node .nil 71 f71 .nil) 72 f72 .nil)) 73 f73 (.node (.node (.node .nil 74 f74 .nil) 75 f75 .nil) 79 f79 (.node .nil 80 f80 .nil)))
def s92 : FT := (.node (.node (.node (.node .nil 84 f84 .nil) 85 f85 .nil) 86 f86 (.node (.node .nil 87 f87 .nil) 89 f89 .nil)) 92 f92 (.node (.node (.node .nil 94 f94 .nil) 95 f95 .nil) 96 f96 (.node .nil 98 f98 .nil)))
def s108 : FT := (.node (.node (.node (.node .nil 100 f100 .nil) 101 f101 .nil) 105 f105 (.node (.node .nil 106 f106 .nil) 107 f107 .nil)) 108 f108 (.node (.node (.node .nil 109 f109 .nil) 110 f110 .nil) 111 f111 (.node .nil 112 f112 .nil)))
def s119 : FT := (.node (.node (.node (.node .nil 114 f114 .nil) 115 f115 .nil) 116 f116 (.node (.node .nil 117 f117 .nil) 118 f118 .nil)) 119 f119 (.node (.node (.node .nil 122 f122 .nil) 123 f123 .nil) 124 f124 (.node .nil 125 f125 .nil)))
def s132 : FT := (.node (.node (.node (.node .nil 127 f127 .nil) 128 f128 .nil) 129 f129 (.node (.node .nil 130 f130 .nil) 131 f131 .nil)) 132 f132 (.node (.node (.node .nil 136 f136 .nil) 137 f137 .nil) 139 f139 (.node .nil 140 f140 .nil)))
def s147 : FT := (.node (.node (.node (.node .nil 142 f142 .nil) 143 f143 .nil) 144 f144 (.node (.node .nil 145 f145 .nil) 146 f146 .nil)) 147 f147 (.node (.node (.node .nil 148 f148 .nil) 149 f149 .nil) 153 f153 (.node .nil 154 f154 .nil)))
def s162 : FT := (.node (.node (.node (.node .nil 156 f156 .nil) 157 f157 .nil) 158 f158 (.node (.node .nil 159 f159 .nil) 160 f160 .nil)) 162 f162 (.node (.node (.node .nil 163 f163 .nil) 164 f164 .nil) 168 f168 (.node .nil 177 f177 .nil)))
def s192 : FT := (.node (.node (.node (.node .nil 187 f187 .nil) 188 f188 .nil) 189 f189 (.node (.node .nil 190 f190 .nil) 191 f191 .nil)) 192 f192 (.node (.node (.node .nil 193 f193 .nil) 195 f195 .nil) 196 f196 (.node .nil 197 f197 .nil)))
def s229 : FT := (.node (.node (.node (.node .nil 210 f210 .nil) 211 f211 .nil) 212 f212 (.node (.node .nil 224 f224 .nil) 228 f228 .nil)) 229 f229 (.node (.node (.node .nil 230 f230 .nil) 231 f231 .nil) 233 f233 (.node .nil 234 f234 .nil)))
def s251 : FT := (.node (.node (.node (.node .nil 236 f236 .nil) 237 f237 .nil) 238 f238 (.node (.node .nil 243 f243 .nil) 250 f250 .nil)) 251 f251 (.node (.node (.node .nil 252 f252 .nil) 253 f253 .nil) 254 f254 (.node .nil 255 f255 .nil)))
def s267 : FT := (.node (.node (.node (.node .nil 257 f257 .nil) 258 f258 .nil) 259 f259 (.node (.node .nil 265 f265 .nil) 266 f266 .nil)) 267 f267 (.node (.node (.node .nil 268 f268 .nil) 269 f269 .nil) 270 f270 (.node .nil 279 f279 .nil)))
def fns : FT :=
  (.node (.node (.node (.node s11 16 f16 s22) 28 f28 (.node s38 43 f43 s49)) 55 f55 (.node (.node s62 67 f67 s73) 81 f81 (.node s92 99 f99 s108))) 113 f113 (.node (.node (.node s119 126 f126 s132) 141 f141 (.node s147 155 f155 s162)) 179 f179 (.node (.node s192 209 f209 s229) 235 f235 (.node s251 256 f256 s267))))
end Go.Eng.AF
